/- The reader in memory; what it takes; frames. -/
import Derived.Test.YtoephflcjllaaaaGreatDoorJ04
import Derived.Handy
import Derived.Laws.Rows
namespace Go.Proofs.YtoephflcjllaaaaGreatDoor
open Go.RowKit

/-! ### Frames -/
/-- What was there stands, but for the blocks of S. -/
structure Fr (S : Nat → Prop) (w w' : World) : Prop where
  os : w'.os = w.os
  tape : w'.tape = w.tape
  output : w'.output = w.output
  size : w.heap.size ≤ w'.heap.size
  keep : ∀ k, k < w.heap.size → ¬ S k → w'.heap[k]? = w.heap[k]?
section
variable {S S' : Nat → Prop} {w w' w'' : World}
theorem Fr.refl (S : Nat → Prop) (w : World) : Fr S w w := ⟨rfl, rfl, rfl, Nat.le_refl _, fun _ _ _ => rfl⟩
theorem Fr.trans (h : Fr S w w') (h' : Fr S' w' w'') (hS : ∀ k, k < w.heap.size → S' k → S k) : Fr S w w'' :=
  ⟨h'.os.trans h.os, h'.tape.trans h.tape, h'.output.trans h.output, Nat.le_trans h.size h'.size,
    fun k hk hn => (h'.keep k (Nat.lt_of_lt_of_le hk h.size) (fun hs => hn (hS k hk hs))).trans (h.keep k hk hn)⟩
theorem Fr.mono (h : Fr S w w') (hS : ∀ k, k < w.heap.size → S k → S' k) : Fr S' w w' := ⟨h.os, h.tape, h.output, h.size, fun k hk hn => h.keep k hk fun hs => hn (hS k hk hs)⟩
theorem Fr.alloc (h : Fr S w w') (o : Obj) : Fr S w (w'.alloc o) :=
  ⟨h.os, h.tape, h.output, Nat.le_trans h.size (by simp), fun k hk hn => (Below.heap_alloc w' o k (Nat.lt_of_lt_of_le hk h.size)).trans (h.keep k hk hn)⟩
theorem Fr.set (h : Fr S w w') {p : Addr} (hp : w.heap.size ≤ p.block ∨ S p.block) (u : Value) : Fr S w (w'.setCell p u) :=
  ⟨h.os, h.tape, h.output, by simpa [World.setCell] using h.size, fun k hk hn => (Below.heap_setCell w' p u k (fun e => by
    rcases hp with hp | hp
    · omega
    · exact hn (e ▸ hp))).trans (h.keep k hk hn)⟩
theorem Fr.of_below (h : Below w.heap.size w w') : Fr S w w' := ⟨h.os, h.tape, h.output, h.size, fun k hk _ => h.block k hk⟩
theorem Fr.drew (h : Fr S w w') : Fr S w w'.drew := ⟨h.os, h.tape, h.output, h.size, h.keep⟩
theorem Fr.below (h : Fr S w w') {B : Nat} (hB : B ≤ w.heap.size) (hS : ∀ k, S k → B ≤ k) : Below B w w' :=
  ⟨h.os, h.tape, h.output, h.size, fun k hk => h.keep k (by omega) (fun hs => by have := hS k hs; omega)⟩
theorem Blk.fr {g : Nat} {t : TypeId} {cs : Array Value} (hb : Blk w g t cs) (h : Fr S w w') (hg : ¬ S g) : Blk w' g t cs := (h.keep g hb.lt hg).trans hb
theorem Blk.ne {g g' : Nat} {t t' : TypeId} {cs cs' : Array Value} (h : Blk w g t cs) (h' : Blk w g' t' cs') (hne : t ≠ t') : g ≠ g' := by
  rintro rfl
  unfold Blk at h h'
  rw [h] at h'
  injection h' with h'
  injection h' with _ ht
  exact hne ht
theorem Vars.fr (hv : Vars w) (h : Fr S w w') (hS : ∀ k, k < 9 → ¬ S k) : Vars w' := vars_keep hv h.size fun g hg => h.keep g (by have := hv.size; omega) (hS g hg)
end

/-! ### The reader -/
/-- Block r is a reader of these words (and the end behind them) that stands at i. -/
def Rdr (w : World) (r A : Nat) (ws : List Bags.W) (i : Nat) : Prop :=
  ∃ cap cur, Blk w r 144 #[.slice (some ⟨A, 0, none⟩) (ws.length + 1) cap, .int .i64 i] ∧
    w.heap[A]? = some (.cells cur 149 (0, 0)) ∧ ws.length + 1 ≤ cap ∧ cap ≤ maxLen ∧ cur.toList.take ((ws.length + 1) * 3) = (ws ++ [Bags.endW]).flatMap wordCells
theorem Rdr.lt {w : World} {r A : Nat} {ws : List Bags.W} {i : Nat} (h : Rdr w r A ws i) : r < w.heap.size := by
  obtain ⟨cap, cur, h, _⟩ := h; exact h.lt
theorem Rdr.ltA {w : World} {r A : Nat} {ws : List Bags.W} {i : Nat} (h : Rdr w r A ws i) : A < w.heap.size := by
  obtain ⟨cap, cur, _, h, _⟩ := h; exact lt_of_some h
theorem Rdr.fr {w w' : World} {S : Nat → Prop} {r A : Nat} {ws : List Bags.W} {i : Nat} (h : Rdr w r A ws i) (hf : Fr S w w') (hS : ¬ S r) (hS' : ¬ S A) : Rdr w' r A ws i := by
  obtain ⟨cap, cur, hb, hA, h1, h2, h3⟩ := h
  refine ⟨cap, cur, hb.fr hf hS, (hf.keep A (lt_of_some hA) hS').trans hA, h1, h2, h3⟩
theorem wc_get (ws : List Bags.W) : ∀ i, i < ws.length → ∀ j, j < 3 → (ws.flatMap wordCells)[i * 3 + j]? = (wordCells (ws.getD i Bags.endW))[j]? := by
  induction ws with
  | nil => intro i hi; simp at hi
  | cons w r ih =>
    intro i hi j hj
    cases i with
    | zero =>
      rw [List.flatMap_cons, List.getElem?_append_left (by simp [wordCells]; omega)]
      simp
    | succ i =>
      rw [List.flatMap_cons, List.getElem?_append_right (by simp [wordCells]; omega)]
      have := ih i (by simpa using hi) j hj
      simp only [List.getD_cons_succ] at this ⊢
      rw [← this]
      congr 1
      simp [wordCells]; omega
theorem hd_drop (ws : List Bags.W) (i : Nat) : (ws ++ [Bags.endW]).getD i Bags.endW = Bags.hd (ws.drop i) := by
  induction ws generalizing i with
  | nil => cases i with
    | zero => rfl
    | succ i => simp [Bags.hd]
  | cons w r ih => cases i with
    | zero => rfl
    | succ i => simpa using ih i
theorem cell_alloc {w : World} {a : Addr} {v : Value} (h : w.cell? a = some v) (o : Obj) : (w.alloc o).cell? a = some v := by
  have : a.block < w.heap.size := by
    rcases Nat.lt_or_ge a.block w.heap.size with h1 | h1
    · exact h1
    · unfold World.cell? at h; rw [Array.getElem?_eq_none h1] at h; cases h
  rw [World.cell?_alloc_lt w o a this]; exact h
/-- The word at which the reader stands, in memory. -/
theorem Rdr.cells {w : World} {r A : Nat} {ws : List Bags.W} {i : Nat} (h : Rdr w r A ws i) : ∃ cap, Blk w r 144 #[.slice (some ⟨A, 0, none⟩) (ws.length + 1) cap, .int .i64 i] ∧ ws.length + 1 ≤ maxLen ∧
    (∀ k, k ≤ ws.length → w.cell? ⟨A, k * 3, none⟩ = some (.int .i64 (Bags.hd (ws.drop k)).sort) ∧ w.cell? ⟨A, k * 3 + 1, none⟩ = some (.string (tx (Bags.hd (ws.drop k)).text)) ∧ w.cell? ⟨A, k * 3 + 2, none⟩ = some (.int .i64 (Bags.hd (ws.drop k)).num)) := by
  obtain ⟨cap, cur, hb, hA, h1, h2, h3⟩ := h
  refine ⟨cap, hb, by omega, fun k hk => ?_⟩
  have key : ∀ j, j < 3 → w.cell? ⟨A, k * 3 + j, none⟩ = (wordCells (Bags.hd (ws.drop k)))[j]? := by
    intro j hj
    have e1 : w.cell? ⟨A, k * 3 + j, none⟩ = cur[k * 3 + j]? := by simp [World.cell?, hA]
    rw [e1, ← Array.getElem?_toList, ← List.getElem?_take_of_lt (by omega : k * 3 + j < (ws.length + 1) * 3), h3, wc_get _ k (by simp; omega) j hj, hd_drop]
  exact ⟨by simpa [wordCells] using key 0 (by omega), by simpa [wordCells] using key 1 (by omega), by simpa [wordCells] using key 2 (by omega)⟩

theorem nat_test {a b : Nat} : ((a : Int) == (b : Int)) = (a == b) := by
  rw [Bool.eq_iff_iff]; simp; omega

set_option maxRecDepth 100000 in
set_option maxHeartbeats 1000000 in
theorem is_nil (r A : Nat) (ws : List Bags.W) (i : Nat) (s : Nat) (w : World) (hr : Rdr w r A ws i) (hi : i ≤ ws.length) :
    Calls Tryz.prog 82 #[.pointer (some ⟨r, 0, none⟩), .int .i64 s, .slice none 0 0] w fun e w' => e = .returned (.bool ((Bags.hd (ws.drop i)).sort == s)) ∧ Below w.heap.size w w' := by
  obtain ⟨cap, hb, hl, hc⟩ := hr.cells
  have c0 := hb.cell 0
  have c1 := hb.cell 1
  obtain ⟨d0, d1, d2⟩ := hc i hi
  unfold maxLen at hl
  have hi' : (i : Int) < (ws.length : Int) + 1 := by omega
  simp at c0 c1
  have k0 := cell_alloc c0
  have k1 := cell_alloc c1
  have e0 := cell_alloc d0
  have e1 := cell_alloc d1
  have e2 := cell_alloc d2
  clear hc hb hr
  generalize hW : Bags.hd (ws.drop i) = W at *
  cases hs : W.sort == s <;>
  · have t1 : ((W.sort : Int) == (s : Int)) = _ := nat_test.trans hs
    clear hs hW
    go_enter Tryz.func82, Tryz.ntmps82
    go_wp2
    go_region
    go_wp2
    go_ret
    exact ⟨rfl, by repeat (first | exact Below.refl _ _ | apply Below.drew | (refine Below.alloc ?_ (Nat.le_refl _) _))⟩

/-- Texts in a block. -/
def Strs (w : World) (b : Nat) (l : List Bags.Str) : Prop := ∀ j u, l[j]? = some u → w.cell? ⟨b, j, none⟩ = some (.string (tx u))

set_option maxRecDepth 100000 in
set_option maxHeartbeats 1000000 in
theorem is_any (r A : Nat) (ws : List Bags.W) (i : Nat) (s : Nat) (b : Nat) (l : List Bags.Str) (w : World) (hr : Rdr w r A ws i) (hi : i ≤ ws.length) (hl0 : 0 < l.length) (hl1 : l.length ≤ maxLen)
    (hC : ∀ (x : ByteArray) (W : World), Strs W b l → Calls Tryz.prog 109 #[.slice (some ⟨b, 0, none⟩) l.length l.length, .string x] W fun e w' => e = .returned (.bool (l.contains (bs x))) ∧ W = w')
    (hS : Strs w b l) :
    Calls Tryz.prog 82 #[.pointer (some ⟨r, 0, none⟩), .int .i64 s, .slice (some ⟨b, 0, none⟩) l.length l.length] w fun e w' => e = .returned (.bool ((Bags.hd (ws.drop i)).is s l)) ∧ Below w.heap.size w w' := by
  obtain ⟨cap, hb, hl, hc⟩ := hr.cells
  have c0 := hb.cell 0
  have c1 := hb.cell 1
  obtain ⟨d0, d1, d2⟩ := hc i hi
  unfold maxLen at hl hl1
  have hi' : (i : Int) < (ws.length : Int) + 1 := by omega
  simp at c0 c1
  have k0 := cell_alloc c0
  have k1 := cell_alloc c1
  have e0 := cell_alloc d0
  have e1 := cell_alloc d1
  have e2 := cell_alloc d2
  have HC := Lib.hid hC
  have HS := Lib.hid (fun o => (show Strs (w.alloc o).drew b l from fun j u hu => cell_alloc (hS j u hu) o))
  clear hc hb hr hC hS
  unfold Bags.W.is
  generalize hW : Bags.hd (ws.drop i) = W at *
  have hcon := HC.out (tx W.text)
  rw [bs_tx] at hcon
  have t2 : ((l.length : Int) == 0) = false := by rw [beq_eq_false_iff_ne]; omega
  cases hs : W.sort == s
  · have t1 : ((W.sort : Int) == (s : Int)) = false := nat_test.trans hs
    clear hs hW hcon
    go_enter Tryz.func82, Tryz.ntmps82
    go_wp2
    go_region
    go_wp2
    go_ret
    exact ⟨rfl, by repeat (first | exact Below.refl _ _ | apply Below.drew | (refine Below.alloc ?_ (Nat.le_refl _) _))⟩
  · have t1 : ((W.sort : Int) == (s : Int)) = true := nat_test.trans hs
    cases hct : l.contains W.text <;>
    · rw [hct] at hcon
      have HQ := Lib.hid hcon
      clear hs hW hcon hct
      go_enter Tryz.func82, Tryz.ntmps82
      go_wp2
      go_region
      go_wp2_with (go_at_call 109; refine (HQ.out _ (HS.out _)).mono ?_; rintro e w' ⟨rfl, rfl⟩)
      go_ret
      exact ⟨rfl, by repeat (first | exact Below.refl _ _ | apply Below.drew | (refine Below.alloc ?_ (Nat.le_refl _) _))⟩

/-- Texts as an argument: nil, or in a block of their own. -/
def Texts (w : World) (v : Value) (l : List Bags.Str) : Prop := (v = .slice none 0 0 ∧ l = []) ∨ (∃ b, v = .slice (some ⟨b, 0, none⟩) l.length l.length ∧ 0 < l.length ∧ l.length ≤ 8 ∧ Strs w b l)
/-- What 'is' tells. -/
def isT (w : Bags.W) (s : Nat) (l : List Bags.Str) : Bool := w.sort == s && (l.isEmpty || l.contains w.text)
theorem isT_nil (w : Bags.W) (s : Nat) : isT w s [] = (w.sort == s) := by simp [isT]
theorem isT_is (w : Bags.W) (s : Nat) (a : Bags.Str) (l : List Bags.Str) : isT w s (a :: l) = w.is s (a :: l) := by simp [isT, Bags.W.is]
/-- slices.Contains at texts. -/
def ContSaid : Prop := ∀ (b : Nat) (l : List Bags.Str) (x : ByteArray) (W : World), l.length ≤ 8 → Strs W b l →
  Calls Tryz.prog 109 #[.slice (some ⟨b, 0, none⟩) l.length l.length, .string x] W fun e w' => e = .returned (.bool (l.contains (bs x))) ∧ W = w'

theorem is_t (hC : ContSaid) {r A : Nat} {ws : List Bags.W} {i : Nat} (s : Nat) {v : Value} {l : List Bags.Str} {w : World} (hr : Rdr w r A ws i) (hi : i ≤ ws.length) (hv : Texts w v l) :
    Calls Tryz.prog 82 #[.pointer (some ⟨r, 0, none⟩), .int .i64 s, v] w fun e w' => e = .returned (.bool (isT (Bags.hd (ws.drop i)) s l)) ∧ Below w.heap.size w w' := by
  rcases hv with ⟨rfl, rfl⟩ | ⟨b, rfl, h0, h8, hS⟩
  · rw [isT_nil]; exact is_nil r A ws i s w hr hi
  · cases l with
    | nil => simp at h0
    | cons a l => rw [isT_is]; exact is_any r A ws i s b (a :: l) w hr hi h0 (by unfold maxLen; omega) (fun x W hS => hC b _ x W h8 hS) hS

theorem Rdr.set {w : World} {r A : Nat} {ws : List Bags.W} {i : Nat} (h : Rdr w r A ws i) (j : Nat) : Rdr (w.setCell ⟨r, 1, none⟩ (.int .i64 j)) r A ws j := by
  obtain ⟨cap, cur, hb, hA, h1, h2, h3⟩ := h
  refine ⟨cap, cur, by simpa using hb.put 1 (.int .i64 j), ?_, h1, h2, h3⟩
  have : A ≠ r := fun e => by
    subst e
    unfold Blk at hb
    rw [hA] at hb
    injection hb with hb
    injection hb with _ ht
    exact absurd ht (by decide)
  exact (Below.heap_setCell w _ _ A this).trans hA
theorem Rdr.below {w w' : World} {r A : Nat} {ws : List Bags.W} {i : Nat} (h : Rdr w r A ws i) (hb : Below w.heap.size w w') : Rdr w' r A ws i :=
  h.fr (Fr.of_below (S := fun _ => False) hb) id id
theorem Rdr.at_ {w : World} {r A : Nat} {ws : List Bags.W} {i : Nat} (h : Rdr w r A ws i) : w.cell? ⟨r, 1, none⟩ = some (.int .i64 i) ∧ w.frozen? ⟨r, 1, none⟩ = false := by
  obtain ⟨cap, cur, hb, _⟩ := h
  exact ⟨by simpa using hb.cell 1, hb.free 1⟩

set_option maxRecDepth 100000 in
set_option maxHeartbeats 1000000 in
theorem takes_t (hC : ContSaid) {r A : Nat} {ws : List Bags.W} {i : Nat} (s : Nat) {v : Value} {l : List Bags.Str} {w : World} (hr : Rdr w r A ws i) (hi : i ≤ ws.length) (hv : Texts w v l) (hz : ws.length ≤ 140737488351232) :
    Calls Tryz.prog 83 #[.pointer (some ⟨r, 0, none⟩), .int .i64 s, v] w fun e w' =>
      e = .returned (.bool (isT (Bags.hd (ws.drop i)) s l)) ∧ Rdr w' r A ws (if isT (Bags.hd (ws.drop i)) s l then i + 1 else i) ∧ Fr (· = r) w w' := by
  have h1 := is_t hC s hr hi hv
  have HR := Lib.hid hr
  have hlt := hr.lt
  clear hr hv
  cases ht : isT (Bags.hd (ws.drop i)) s l
  · rw [ht] at h1
    have H1 := Lib.hid h1
    clear h1 ht
    go_enter Tryz.func83, Tryz.ntmps83
    go_wp2_with (go_at_call 82; refine H1.out.mono ?_; rintro e w' ⟨rfl, hb⟩; have HB := Lib.hid hb; clear hb)
    go_ret
    exact ⟨rfl, HR.out.below HB.out, Fr.of_below HB.out⟩
  · rw [ht] at h1
    have H1 := Lib.hid h1
    clear h1 ht
    go_enter Tryz.func83, Tryz.ntmps83
    go_wp2_with (go_at_call 82; refine H1.out.mono ?_; rintro e w' ⟨rfl, hb⟩; have HB := Lib.hid hb; clear hb; have HA := Lib.hid (HR.out.below HB.out); obtain ⟨c1, f1⟩ := HA.out.at_)
    go_ret
    exact ⟨rfl, by simpa using HA.out.set (i + 1), Fr.set (S := (· = r)) (p := ⟨r, 1, none⟩) (Fr.of_below HB.out) (.inr rfl) _⟩
end Go.Proofs.YtoephflcjllaaaaGreatDoor
/- Walks: must, tries, inBrackets. -/
namespace Go.Proofs.YtoephflcjllaaaaGreatDoor
open Go.RowKit

def missed : List PanicEntry := [{ v := .iface 176 (.agg #[]), recovered := false }]
def wordVal (w : Bags.W) : Value := .agg #[.int .i64 w.sort, .string (tx w.text), .int .i64 w.num]
/-- What must answers. -/
def MustPost (r A : Nat) (ws : List Bags.W) (i : Nat) (s : Nat) (l : List Bags.Str) (w : World) (e : Ending) (w' : World) : Prop :=
  Fr (· = r) w w' ∧ if isT (Bags.hd (ws.drop i)) s l = true then e = .returned (wordVal (Bags.hd (ws.drop i))) ∧ Rdr w' r A ws (i + 1) else e = .panicked missed ∧ Rdr w' r A ws i

set_option maxRecDepth 100000 in
set_option maxHeartbeats 1000000 in
theorem must_t (hC : ContSaid) {r A : Nat} {ws : List Bags.W} {i : Nat} (s : Nat) {v : Value} {l : List Bags.Str} {w : World} (hr : Rdr w r A ws i) (hi : i ≤ ws.length) (hv : Texts w v l) (hz : ws.length ≤ 140737488351232) :
    Calls Tryz.prog 64 #[.pointer (some ⟨r, 0, none⟩), .int .i64 s, v] w fun e w' => MustPost r A ws i s l w e w' := by
  have hlt := hr.lt
  have hltA := hr.ltA
  have hr' : ∀ o, Rdr (w.alloc o) r A ws i := fun o => hr.below ((Below.refl _ _).alloc (Nat.le_refl _) _)
  have hv' : ∀ o, Texts (w.alloc o) v l := by
    intro o
    rcases hv with h | ⟨b, h1, h2, h3, h4⟩
    · exact .inl h
    · exact .inr ⟨b, h1, h2, h3, fun j u hu => cell_alloc (h4 j u hu) o⟩
  have hk := fun o => takes_t hC s (hr' o) hi (hv' o) hz
  unfold MustPost
  cases ht : isT (Bags.hd (ws.drop i)) s l
  · simp only [ht, Bool.false_eq_true, if_false] at hk ⊢
    have HK := Lib.hid hk
    clear hr hv hr' hv' hk ht
    go_enter Tryz.func64, Tryz.ntmps64
    go_wp2_with (go_at_call 83; refine (HK.out _).mono ?_; rintro e w' ⟨rfl, hR, hF⟩; have HR := Lib.hid hR; have HF := Lib.hid hF; clear hR hF)
    exact ⟨rfl, ((Fr.refl _ _).alloc _).trans HF.out (fun _ _ h => h), rfl, HR.out⟩
  · simp only [ht, if_true] at hk ⊢
    have HK := Lib.hid hk
    clear hr hv hr' hv' hk ht
    go_enter Tryz.func64, Tryz.ntmps64
    go_wp2_with (go_at_call 83; refine (HK.out _).mono ?_; rintro e w' ⟨rfl, hR, hF⟩; have HR := Lib.hid hR; have HF := Lib.hid hF; clear hR hF)
    obtain ⟨cap, hb, hl, hc⟩ := HR.out.cells
    have c0 := hb.cell 0
    have c1 := hb.cell 1
    obtain ⟨d0, d1, d2⟩ := hc i hi
    have hz1 := HF.out.size
    simp only [World.size_alloc] at hz1
    have hblk : Blk w' w.heap.size 149 #[.int .i64 0, .string ⟨#[]⟩, .int .i64 0] := (Blk.made _ _ _).fr HF.out (by omega)
    have b0 := hblk.cell 0
    have b1 := hblk.cell 1
    have b2 := hblk.cell 2
    have g0 := hblk.free 0
    have g1 := hblk.free 1
    have g2 := hblk.free 2
    unfold maxLen at hl
    simp at c0 c1 b0 b1 b2
    have hput := ((hblk.put 0 (.int .i64 (Bags.hd (ws.drop i)).sort)).put 1 (.string (tx (Bags.hd (ws.drop i)).text))).put 2 (.int .i64 (Bags.hd (ws.drop i)).num)
    have hput := hput.drew
    go_region
    go_wp2_with fail
    refine bodyPost_ret (results_cell_row rfl _ _ _ 149 _ (0, 0) _ rfl hput rfl rfl rfl) rfl ⟨?_, rfl, ?_⟩
    · have h1 : Fr (· = r) w w' := ((Fr.refl _ _).alloc _).trans HF.out (fun _ _ h => h)
      exact (((h1.set (.inl (Nat.le_refl _)) _).set (.inl (Nat.le_refl _)) _).set (.inl (Nat.le_refl _)) _).drew
    · have h2 := ((((Fr.refl (· = w.heap.size) w').set (p := ⟨w.heap.size, 0, none⟩) (.inr rfl) (.int .i64 (Bags.hd (ws.drop i)).sort)).set (p := ⟨w.heap.size, 1, none⟩) (.inr rfl) (.string (tx (Bags.hd (ws.drop i)).text))).set (p := ⟨w.heap.size, 2, none⟩) (.inr rfl) (.int .i64 (Bags.hd (ws.drop i)).num)).drew
      exact HR.out.fr h2 (by omega) (by omega)
end Go.Proofs.YtoephflcjllaaaaGreatDoor
