/- Walks of the reference: lines, pieces. -/
import Derived.Test.YtoephflcjllaaaaGreatDoorOP
namespace Go.Proofs.YtoephflcjllaaaaGreatDoor
open Go.RowKit

/-- What the loop of lines holds. -/
def LSeen (s : ByteArray) (f k : Nat) (acc : List Bags.Str) : Prop :=
  if k ≤ s.size then Bags.linesOf (bs s) = acc ++ Bags.joinFirst (bs (s.extract f k)) (Bags.linesOf ((bs s).drop k)) else Bags.linesOf (bs s) = acc
theorem extract_same (s : ByteArray) (k : Nat) : bs (s.extract k k) = [] := by rw [extract_eq, Nat.sub_self]; rfl
theorem extract_next {s : ByteArray} {f k : Nat} (hf : f ≤ k) (hk : k < s.size) : bs (s.extract f (k + 1)) = bs (s.extract f k) ++ [s[k]] := by
  rw [extract_eq, extract_eq, show k + 1 - f = (k - f) + 1 by omega, List.take_add_one, List.getElem?_drop, show f + (k - f) = k by omega]
  have : (bs s)[k]? = some s[k] := by
    have h := congrArg (·[0]?) (drop_cons s k hk)
    rw [List.getElem?_drop] at h
    simpa using h
  rw [this]; rfl
theorem LSeen.start (s : ByteArray) : LSeen s 0 0 [] := by
  unfold LSeen
  rw [if_pos (Nat.zero_le _), extract_same, List.drop_zero, Bags.joinFirst_nil (Bags.linesOf_ne _)]; rfl
theorem LSeen.line {s : ByteArray} {f k : Nat} {acc : List Bags.Str} (h : LSeen s f k acc) (hk : k < s.size) (hc : s[k] = 10) : LSeen s (k + 1) (k + 1) (acc ++ [bs (s.extract f k)]) := by
  unfold LSeen at *
  rw [if_pos (by omega)] at h
  rw [if_pos (by omega), h, drop_cons s k hk, hc, Bags.linesOf_line, extract_same, Bags.joinFirst_nil (Bags.linesOf_ne _)]
  simp [Bags.joinFirst]
theorem LSeen.byte {s : ByteArray} {f k : Nat} {acc : List Bags.Str} (h : LSeen s f k acc) (hf : f ≤ k) (hk : k < s.size) (hc : s[k] ≠ 10) : LSeen s f (k + 1) acc := by
  unfold LSeen at *
  rw [if_pos (by omega)] at h
  rw [if_pos (by omega), h, drop_cons s k hk, Bags.linesOf_byte _ hc, Bags.joinFirst_join, extract_next hf hk]
theorem LSeen.last {s : ByteArray} {f : Nat} {acc : List Bags.Str} (h : LSeen s f s.size acc) : Bags.linesOf (bs s) = acc ++ [bs (s.extract f s.size)] := by
  unfold LSeen at h
  rw [if_pos (Nat.le_refl _)] at h
  rw [h, drop_nil s _ (Nat.le_refl _)]; simp [Bags.linesOf, Bags.joinFirst]
theorem LSeen.over {s : ByteArray} {f k : Nat} {acc : List Bags.Str} (h : LSeen s f k acc) (hk : ¬ k ≤ s.size) : Bags.linesOf (bs s) = acc := by
  unfold LSeen at h
  rwa [if_neg hk] at h

/-- What lines answers. -/
def LinesPost (s : ByteArray) (w : World) (e : Ending) (w' : World) : Prop :=
  Below w.heap.size w w' ∧ ∃ v, e = .returned v ∧ w'.ownsRow w.heap.size 9 1 v (Bags.linesOf (bs s)).length ((Bags.linesOf (bs s)).map strV)

set_option maxRecDepth 100000 in
set_option maxHeartbeats 2000000 in
theorem lines_ref (s : ByteArray) (w : World) (hs : s.size ≤ 4000) :
    Calls Tryz.prog 13 #[.string s] w (LinesPost s w) := by
  go_enter Tryz.func13, Tryz.ntmps13
  go_wp2_with fail
  go_loopw [3, 4, 5] (fun o f v wr => ∃ (k f' : Nat) (acc : List Bags.Str), k ≤ s.size + 1 ∧ (k ≤ s.size → f' ≤ k) ∧ v = .int .i64 (k : Nat) ∧ f = .int .i64 (f' : Nat) ∧ LSeen s f' k acc ∧ wr.ownsRow w.heap.size 9 1 o acc.length (acc.map strV) ∧ acc.length ≤ k ∧ Below w.heap.size w wr) (fun _ _ v _ => s.size + 1 - (intOf v).toNat)
  case atStart => exact ⟨0, 0, [], by omega, by omega, rfl, rfl, LSeen.start s, ⟨by simp, .inl ⟨rfl, rfl⟩⟩, by simp, Below.refl _ _⟩
  case round =>
    rename_i wr
    obtain ⟨k, f, acc, hk, hf, rfl, rfl, hq, hown, hacc, hbl⟩ := hrel
    have HQ := Lib.hid hq
    have HB := Lib.hid hbl
    have hbs := hbl.size
    clear hq hbl
    by_cases hlt : k < s.size
    · have hlt' : (k : Int) < (s.size : Int) := by omega
      have hle : (k : Int) ≤ (s.size : Int) := by omega
      have hne : ((k : Int) == (s.size : Int)) = false := by simp; omega
      have hfk : f ≤ k := hf (by omega)
      by_cases h10 : s[k] = 10
      · have t1 := tst_t s[k] (n := 10) 10 rfl h10
        have HX := Lib.hid (HQ.out.line hlt h10)
        clear h10 hf
        go_wp2_with (at_builtin; refine wpList_append_one rfl _ _ rfl (base := w.heap.size) elem_strs rfl hown (cs := #[.string (s.extract f k)]) rfl rfl rfl (by simp [Value.oneCell']) (by unfold maxLen; omega) (by omega) hbs ?_; intro b' w1 hown1 hb1 _ hz1)
        exact ⟨⟨k + 1, k + 1, acc ++ [bs (s.extract f k)], by omega, by omega, by simp, by simp, HX.out, by simpa [strV] using hown1, by simp; omega, HB.out.trans hb1⟩, by simp [intOf]; omega⟩
      · have t1 := tst_f s[k] (n := 10) 10 rfl h10
        have HX := Lib.hid (HQ.out.byte hfk hlt h10)
        clear h10 hf
        go_wp2_with fail
        exact ⟨⟨k + 1, f, acc, by omega, by omega, by simp, rfl, HX.out, hown, by omega, HB.out⟩, by simp [intOf]; omega⟩
    · by_cases hend : k = s.size
      · subst hend
        have hfk : f ≤ s.size := hf (by omega)
        have HX := Lib.hid HQ.out.last
        clear hf hlt
        go_wp2_with (at_builtin; refine wpList_append_one rfl _ _ rfl (base := w.heap.size) elem_strs rfl hown (cs := #[.string (s.extract f s.size)]) rfl rfl rfl (by simp [Value.oneCell']) (by unfold maxLen; omega) (by omega) hbs ?_; intro b' w1 hown1 hb1 _ hz1)
        exact ⟨⟨s.size + 1, s.size + 1, acc ++ [bs (s.extract f s.size)], by omega, by omega, by simp, by simp, by unfold LSeen; rw [if_neg (by omega)]; exact HX.out, by simpa [strV] using hown1, by simp; omega, HB.out.trans hb1⟩, by simp [intOf]⟩
      · have hle : ¬ (k : Int) ≤ (s.size : Int) := by omega
        have HN := Lib.hid (HQ.out.over (by omega))
        go_wp2_with fail
        go_ret
        exact ⟨HB.out, _, rfl, by rw [HN.out]; exact hown⟩
end Go.Proofs.YtoephflcjllaaaaGreatDoor
