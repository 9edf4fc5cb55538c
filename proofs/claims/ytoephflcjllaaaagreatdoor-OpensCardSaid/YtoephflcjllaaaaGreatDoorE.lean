/- Walks: must, tries, inBrackets. -/
import Derived.Test.YtoephflcjllaaaaGreatDoorD
import Derived.Handy
import Derived.Laws.Rows
namespace Go.Proofs.YtoephflcjllaaaaGreatDoor
open Go.RowKit

def missed : List PanicEntry := [{ v := .iface 176 (.agg #[]), recovered := false }]
def wordVal (w : Bags.W) : Value := .agg #[.int .i64 w.sort, .string (tx w.text), .int .i64 w.num]
/-- What must answers. -/
def MustPost (r A : Nat) (ws : List Bags.W) (i : Nat) (s : Nat) (l : List Bags.Str) (w : World) (e : Ending) (w' : World) : Prop :=
  Fr (· = r) w w' ∧ if isT (Bags.hd (ws.drop i)) s l = true then e = .returned (wordVal (Bags.hd (ws.drop i))) ∧ Rdr w' r A ws (i + 1) else e = .panicked missed ∧ Rdr w' r A ws i

set_option maxRecDepth 100000 in
set_option maxHeartbeats 1000000 in
theorem must_t (hC : ContSaid) {r A : Nat} {ws : List Bags.W} {i : Nat} (s : Nat) {v : Value} {l : List Bags.Str} {w : World} (hr : Rdr w r A ws i) (hi : i ≤ ws.length) (hv : Texts w v l) (hz : ws.length ≤ 140737488351232) :
    Calls Tryz.prog 64 #[.pointer (some ⟨r, 0, none⟩), .int .i64 s, v] w fun e w' => MustPost r A ws i s l w e w' := by
  have hlt := hr.lt
  have hltA := hr.ltA
  have hr' : ∀ o, Rdr (w.alloc o) r A ws i := fun o => hr.below ((Below.refl _ _).alloc (Nat.le_refl _) _)
  have hv' : ∀ o, Texts (w.alloc o) v l := by
    intro o
    rcases hv with h | ⟨b, h1, h2, h3, h4⟩
    · exact .inl h
    · exact .inr ⟨b, h1, h2, h3, fun j u hu => cell_alloc (h4 j u hu) o⟩
  have hk := fun o => takes_t hC s (hr' o) hi (hv' o) hz
  unfold MustPost
  cases ht : isT (Bags.hd (ws.drop i)) s l
  · simp only [ht, Bool.false_eq_true, if_false] at hk ⊢
    have HK := Lib.hid hk
    clear hr hv hr' hv' hk ht
    go_enter Tryz.func64, Tryz.ntmps64
    go_wp2_with (go_at_call 83; refine (HK.out _).mono ?_; rintro e w' ⟨rfl, hR, hF⟩; have HR := Lib.hid hR; have HF := Lib.hid hF; clear hR hF)
    exact ⟨rfl, ((Fr.refl _ _).alloc _).trans HF.out (fun _ _ h => h), rfl, HR.out⟩
  · simp only [ht, if_true] at hk ⊢
    have HK := Lib.hid hk
    clear hr hv hr' hv' hk ht
    go_enter Tryz.func64, Tryz.ntmps64
    go_wp2_with (go_at_call 83; refine (HK.out _).mono ?_; rintro e w' ⟨rfl, hR, hF⟩; have HR := Lib.hid hR; have HF := Lib.hid hF; clear hR hF)
    obtain ⟨cap, hb, hl, hc⟩ := HR.out.cells
    have c0 := hb.cell 0
    have c1 := hb.cell 1
    obtain ⟨d0, d1, d2⟩ := hc i hi
    have hz1 := HF.out.size
    simp only [World.size_alloc] at hz1
    have hblk : Blk w' w.heap.size 149 #[.int .i64 0, .string ⟨#[]⟩, .int .i64 0] := (Blk.made _ _ _).fr HF.out (by omega)
    have b0 := hblk.cell 0
    have b1 := hblk.cell 1
    have b2 := hblk.cell 2
    have g0 := hblk.free 0
    have g1 := hblk.free 1
    have g2 := hblk.free 2
    unfold maxLen at hl
    simp at c0 c1 b0 b1 b2
    have hput := ((hblk.put 0 (.int .i64 (Bags.hd (ws.drop i)).sort)).put 1 (.string (tx (Bags.hd (ws.drop i)).text))).put 2 (.int .i64 (Bags.hd (ws.drop i)).num)
    have hput := hput.drew
    go_region
    go_wp2_with fail
    refine bodyPost_ret (results_cell_row rfl _ _ _ 149 _ (0, 0) _ rfl hput rfl rfl rfl) rfl ⟨?_, rfl, ?_⟩
    · have h1 : Fr (· = r) w w' := ((Fr.refl _ _).alloc _).trans HF.out (fun _ _ h => h)
      exact (((h1.set (.inl (Nat.le_refl _)) _).set (.inl (Nat.le_refl _)) _).set (.inl (Nat.le_refl _)) _).drew
    · have h2 := ((((Fr.refl (· = w.heap.size) w').set (p := ⟨w.heap.size, 0, none⟩) (.inr rfl) (.int .i64 (Bags.hd (ws.drop i)).sort)).set (p := ⟨w.heap.size, 1, none⟩) (.inr rfl) (.string (tx (Bags.hd (ws.drop i)).text))).set (p := ⟨w.heap.size, 2, none⟩) (.inr rfl) (.int .i64 (Bags.hd (ws.drop i)).num)).drew
      exact HR.out.fr h2 (by omega) (by omega)
end Go.Proofs.YtoephflcjllaaaaGreatDoor
