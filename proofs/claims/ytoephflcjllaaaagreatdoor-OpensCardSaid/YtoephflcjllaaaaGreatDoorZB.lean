/- strings.Split and strconv.ParseInt off the shelf; the lines of a text. -/
import Derived.Test.YtoephflcjllaaaaGreatDoorOY
import Derived.Test.YtoephflcjllaaaaGreatDoorShelf
namespace Bags
theorem linesOf_no : ∀ {l : Str}, (∀ c ∈ l, c ≠ 10) → linesOf l = [l]
  | [], _ => rfl
  | c :: r, h => by
    rw [linesOf_byte r (h c (by simp)), linesOf_no (l := r) (fun x hx => h x (by simp [hx]))]; rfl
theorem linesOf_cut : ∀ {a r : Str}, (∀ c ∈ a, c ≠ 10) → linesOf (a ++ 10 :: r) = a :: linesOf r
  | [], r, _ => linesOf_line r
  | c :: a, r, h => by
    rw [List.cons_append, linesOf_byte _ (h c (by simp)), linesOf_cut (a := a) (fun x hx => h x (by simp [hx]))]; rfl
end Bags
namespace Go.Proofs.YtoephflcjllaaaaGreatDoor
open Go.RowKit

theorem splitB_lines : ∀ (n : Nat) (s : ByteArray), s.size ≤ n → (Lib.splitB ⟨#[10]⟩ 0 (Lib.countB s ⟨#[10]⟩) s).map bs = Bags.linesOf (bs s) := by
  intro n
  induction n with
  | zero =>
    intro s hs
    rcases Lib.indexB_cases s ⟨#[10]⟩ with h | ⟨i, _, h2⟩
    · have h0 : bs s = [] := List.eq_nil_of_length_eq_zero (by rw [bs_length]; omega)
      rw [Lib.countB_miss _ _ h, Lib.splitB_zero, h0, List.map_singleton, h0]; rfl
    · exact absurd h2 (by show ¬ i + 1 ≤ s.size; omega)
  | succ n ih =>
    intro s hs
    rcases Lib.indexB_cases s ⟨#[10]⟩ with h | ⟨i, h, h2⟩
    · have hb : Lib.indexByte (bs s) 10 = -1 := by rw [← Lib.index_one]; exact h
      have hn := Lib.indexByte_none hb
      rw [Lib.countB_miss _ _ h, Lib.splitB_zero, List.map_singleton, Bags.linesOf_no]
      rintro c hc rfl
      obtain ⟨k, hk, hk2⟩ := List.getElem_of_mem hc
      exact hn k (by rw [List.getElem?_eq_getElem hk, hk2])
    · have h2' : i + 1 ≤ s.size := h2
      have hb : Lib.indexByte (bs s) 10 = i := by rw [← Lib.index_one]; exact h
      obtain ⟨ha, hn⟩ := Lib.indexByte_some hb
      have hcut : bs s = bs (s.extract 0 i) ++ 10 :: bs (s.extract (i + 1) s.size) := by
        rw [extract_eq, extract_eq, List.drop_zero, Nat.sub_zero, List.take_of_length_le (l := (bs s).drop (i + 1)) (by rw [List.length_drop, bs_length]; omega)]
        have hil : i < (bs s).length := by rw [bs_length]; omega
        rw [List.getElem?_eq_getElem hil] at ha
        injection ha with ha
        rw [← ha, ← List.drop_eq_getElem_cons hil, List.take_append_drop]
      rw [Lib.countB_hit _ _ i (by decide) h, Nat.add_comm 1, Lib.splitB_hit _ _ _ _ i h]
      have ih' := ih (s.extract (i + 1) s.size) (by rw [ByteArray.size_extract]; omega)
      rw [List.map_cons]
      show bs (s.extract 0 i) :: (Lib.splitB ⟨#[10]⟩ 0 (Lib.countB (s.extract (i + 1) s.size) ⟨#[10]⟩) (s.extract (i + 1) s.size)).map bs = _
      rw [ih', hcut, Bags.linesOf_cut]
      rintro c hc rfl
      obtain ⟨k, hk, hk2⟩ := List.getElem_of_mem hc
      have hk' : k < i := by rw [extract_eq] at hk; simp at hk; omega
      refine hn k hk' ?_
      rw [hcut, List.getElem?_append_left hk, List.getElem?_eq_getElem hk, hk2]

/-- internal/bytealg.MaxLen holds an int. -/
def MaxIs (w : World) : Prop := ∃ m, w.cell? ⟨1, 0, none⟩ = some (.int .i64 m)
theorem split_said : SplitSaid MaxIs where
  run := fun s w ⟨m, hm⟩ hs => (Tryz.strings_Split s ⟨#[10]⟩ m w (by omega) hm (by decide)).mono fun e w' ⟨he, hw⟩ => by
    subst hw
    have hl := splitB_lines s.size s (Nat.le_refl _)
    have hlen : (Bags.linesOf (bs s)).length = Lib.countB s ⟨#[10]⟩ + 1 := by
      rw [← hl, List.length_map]; exact Lib.splitB_all ⟨#[10]⟩ (by decide) 0 _ s rfl
    have hmap : (Bags.linesOf (bs s)).map strV = (Lib.splitB ⟨#[10]⟩ 0 (Lib.countB s ⟨#[10]⟩) s).map Value.string := by
      rw [← hl, List.map_map]
      exact List.map_congr_left fun x _ => by simp [strV]
    have hle := Bags.linesOf_length (bs s)
    rw [bs_length] at hle
    refine ⟨(Below.refl _ _).alloc (Nat.le_refl _) _, _, he, by simp, .inr ⟨w.heap.size, _, _, by rw [hlen], Nat.le_refl _, Blk.made w _ _, by rw [hlen]; exact Nat.le_refl _, by unfold maxLen; omega, ?_, ?_⟩⟩
    · rw [hmap.symm]; simp [hlen]
    · rw [hmap]
      rw [List.take_of_length_le]
      rw [hmap.symm]; simp
  keep := fun w o ⟨m, hm⟩ => ⟨m, cell_alloc hm o⟩

theorem parse_said : ParseSaid where
  ok := fun s v w _ hs h => (Tryz.strconv_ParseInt_10_at64_ok s (by omega) v h w).mono fun e w' ⟨he, hw⟩ => ⟨he, by
    rcases hw with rfl | ⟨t, rfl⟩
    · exact Below.refl _ _
    · exact Lib.bytesWorld_below _ _ _⟩
  no := fun s w hv hs h => by
    cases hp : Lib.parseIntB 64 (bs s)
    case ok v => exact absurd hp (h v)
    case range =>
      obtain ⟨tp, p, hvar⟩ := hv.ran
      exact (Tryz.strconv_ParseInt_10_at64_range_var s (by omega) hp tp p w hvar).mono fun e w' ⟨N, he, _, _, hb⟩ => ⟨_, N, he, hb⟩
    all_goals
      obtain ⟨tp, p, hvar⟩ := hv.syn
      exact (Any.strconv_ParseInt_10_at64_syntax_var Tryz.laysC174 s (by omega) hp tp p w hvar).mono fun e w' ⟨N, he, _, _, hb⟩ => ⟨_, N, he, hb⟩
end Go.Proofs.YtoephflcjllaaaaGreatDoor
