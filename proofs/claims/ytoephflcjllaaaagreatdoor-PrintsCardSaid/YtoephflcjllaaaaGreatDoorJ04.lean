/- Walk: the words of a query. -/
import Derived.Test.YtoephflcjllaaaaGreatDoorJ03
import Derived.Lib.ParseIntBCases
namespace Go.Proofs.YtoephflcjllaaaaGreatDoor
open Go.RowKit

/-! ### Numbers -/
def natFrom (acc : Nat) (l : List UInt8) : Nat := l.foldl (fun n c => 10 * n + (c.toNat - 48)) acc
theorem natFrom_cons (acc : Nat) (c : UInt8) (r : List UInt8) : natFrom acc (c :: r) = natFrom (10 * acc + (c.toNat - 48)) r := by unfold natFrom; rw [List.foldl_cons]
theorem natOf_mono (l : List UInt8) : ∀ acc : Nat, acc ≤ natFrom acc l := by
  induction l with
  | nil => intro acc; exact Nat.le_refl _
  | cons c r ih => intro acc; rw [natFrom_cons]; exact Nat.le_trans (show acc ≤ 10 * acc + (c.toNat - 48) by omega) (ih (10 * acc + (c.toNat - 48)))
def okBelow (b v : Nat) : Lib.NumEnd Nat := if v < b then .ok v else .range
theorem parseUintM_digits : ∀ (l : List UInt8) (acc : Nat), (∀ c ∈ l, Bags.digit c = true) → acc < 2 ^ 64 → Lib.parseUintM (2 ^ 64 - 1) acc l = okBelow (2 ^ 64) (natFrom acc l)
  | [], acc, _, h => by
    show Lib.parseUintM _ acc [] = okBelow (2 ^ 64) acc
    unfold okBelow; rw [if_pos h]; rfl
  | c :: r, acc, hd, h => by
    have hc := hd c (by simp)
    rw [digit_eq] at hc
    have hc' : 48 ≤ c.toNat ∧ c.toNat ≤ 57 := by simp at hc; omega
    have hm := natOf_mono r (10 * acc + (c.toNat - 48))
    rw [natFrom_cons]
    unfold Lib.parseUintM
    rw [if_pos hc']
    by_cases h1 : 1844674407370955162 ≤ acc
    · rw [if_pos h1]; unfold okBelow; rw [if_neg (by omega)]
    · rw [if_neg h1]
      by_cases h2 : 2 ^ 64 - 1 < acc * 10 + (c.toNat - 48)
      · rw [if_pos h2]; unfold okBelow; rw [if_neg (by omega)]
      · rw [if_neg h2, Nat.mul_comm acc 10, parseUintM_digits r _ (fun x hx => hd x (by simp [hx])) (by omega)]
theorem parseInt_digits (l : List UInt8) (hne : l ≠ []) (hd : ∀ c ∈ l, Bags.digit c = true) : Lib.parseIntB 64 l = if Bags.natOf l < 2 ^ 63 then .ok (Bags.natOf l) else .range := by
  cases l with
  | nil => exact absurd rfl hne
  | cons c r =>
    have hc := hd c (by simp)
    rw [digit_eq] at hc
    have hc' : 48 ≤ c.toNat ∧ c.toNat ≤ 57 := by simp at hc; omega
    rw [Lib.parseIntB_plain 64 c r (by omega) (by omega)]
    unfold Lib.parseUintB
    rw [if_neg (by simp), parseUintM_digits (c :: r) 0 hd (by decide), show Bags.natOf (c :: r) = natFrom 0 (c :: r) from rfl]
    generalize natFrom 0 (c :: r) = v
    unfold okBelow
    by_cases h : v < 2 ^ 63
    · rw [if_pos h, if_pos (by omega)]
      simp only [Lib.signlessC]
      rw [if_neg (by omega)]
    · rw [if_neg h]
      by_cases h2 : v < 2 ^ 64
      · rw [if_pos h2]; simp only [Lib.signlessC]; rw [if_pos (by omega)]
      · rw [if_neg h2]; rfl

/-! ### The variables of the library -/
/-- What the library's variables hold, as far as the walks ask. -/
structure Vars (w : World) : Prop where
  size : 9 ≤ w.heap.size
  syn : ∃ tp p, w.var? Tryz.prog "strconv.ErrSyntax" = some #[.iface tp p]
  ran : ∃ tp p, w.var? Tryz.prog "strconv.ErrRange" = some #[.iface tp p]

/-- strconv.ParseInt at base 10 and 64 bits. -/
structure ParseSaid : Prop where
  ok : ∀ (s : ByteArray) (v : Int) (w : World), Vars w → s.size ≤ 140737488351232 → Lib.parseIntB 64 (bs s) = .ok v →
    Calls Tryz.prog 74 #[.string s, .int .i64 10, .int .i64 64] w fun e w' => e = .returned (.tuple #[.int .i64 v, .nilIface]) ∧ Below w.heap.size w w'
  no : ∀ (s : ByteArray) (w : World), Vars w → s.size ≤ 140737488351232 → (∀ v, Lib.parseIntB 64 (bs s) ≠ .ok v) →
    Calls Tryz.prog 74 #[.string s, .int .i64 10, .int .i64 64] w fun e w' => ∃ v N, e = .returned (.tuple #[.int .i64 v, .iface 221 (.pointer (some ⟨N, 0, none⟩))]) ∧ Below w.heap.size w w'

theorem vars_keep {w w' : World} (h : Vars w) (hs : w.heap.size ≤ w'.heap.size) (hk : ∀ g, g < 9 → w'.heap[g]? = w.heap[g]?) : Vars w' := by
  have aux : ∀ {n : String} {g : Nat} {cs : Array Value}, Tryz.prog.globalNamed n = some g → g < 9 → w.var? Tryz.prog n = some cs → w'.var? Tryz.prog n = some cs := by
    intro n g cs hg hlt hv
    unfold World.var? at hv ⊢
    simp only [hg, Option.bind_some] at hv ⊢
    rw [hk g hlt]; exact hv
  refine ⟨Nat.le_trans h.size hs, ?_, ?_⟩
  · obtain ⟨tp, p, hv⟩ := h.syn
    exact ⟨tp, p, aux (g := 4) (by kernel_rfl) (by decide) hv⟩
  · obtain ⟨tp, p, hv⟩ := h.ran
    exact ⟨tp, p, aux (g := 5) (by kernel_rfl) (by decide) hv⟩
theorem Vars.below {w w' : World} {B : Nat} (h : Vars w) (hb : Below B w w') (hB : 9 ≤ B) : Vars w' := vars_keep h hb.size fun g hg => hb.block g (by omega)
theorem Vars.later {w w' : World} (h : Vars w) (hb : Below w.heap.size w w') : Vars w' := h.below hb h.size
theorem Vars.alloc {w : World} (h : Vars w) (o : Obj) : Vars (w.alloc o) := vars_keep h (by simp) fun g hg => Below.heap_alloc w o g (by have := h.size; omega)

theorem own_later {w w' : World} {base : Nat} {e : TypeId} {size n : Nat} {v : Value} {xs : List Value} (h : w.ownsRow base e size v n xs) (hb : Below w.heap.size w w') : w'.ownsRow base e size v n xs := by
  obtain ⟨h1, h2⟩ := h
  refine ⟨h1, ?_⟩
  rcases h2 with h2 | ⟨g, cap, cur, rfl, h3, h4, h5⟩
  · exact .inl h2
  · exact .inr ⟨g, cap, cur, rfl, h3, (hb.block g (lt_of_some h4)).trans h4, h5⟩

/-! ### Words in memory -/
def wordCells (w : Bags.W) : List Value := [.int .i64 w.sort, .string (tx w.text), .int .i64 w.num]
theorem elem_words : Elem Tryz.prog 141 149 3 32 := ⟨Tryz.underlying141, by kernel_rfl, by decide⟩
theorem flat3 (l : List Bags.W) : (l.flatMap wordCells).length = l.length * 3 := by
  induction l with
  | nil => rfl
  | cons w r ih => simp [wordCells, ih]; omega

theorem tst_t (c : UInt8) {n : Int} (d : UInt8) (hd : (d.toNat : Int) = n) (h : c = d) : ((c.toNat : Int) == n) = true := by rw [h, hd]; simp
theorem tst_f (c : UInt8) {n : Int} (d : UInt8) (hd : (d.toNat : Int) = n) (h : c ≠ d) : ((c.toNat : Int) == n) = false := by
  rw [← hd, u8_int]; simpa using h
theorem extract_eq (s : ByteArray) (a b : Nat) : bs (s.extract a b) = ((bs s).drop a).take (b - a) := by
  unfold bs
  rw [ByteArray.data_extract, Array.toList_extract]
theorem spanTo_le (p : UInt8 → Bool) (s : ByteArray) (i : Nat) (hi : i ≤ s.size) : i ≤ spanTo p s i ∧ spanTo p s i ≤ s.size := by
  unfold spanTo
  have := Bags.takeWhile_len p ((bs s).drop i)
  rw [List.length_drop, bs_length] at this
  omega
theorem span_text (p : UInt8 → Bool) (s : ByteArray) (i : Nat) : bs (s.extract i (spanTo p s i)) = ((bs s).drop i).takeWhile p := by
  rw [extract_eq s i _]
  unfold spanTo
  rw [Nat.add_sub_cancel_left]
  exact (List.prefix_iff_eq_take.1 (List.takeWhile_prefix p)).symm

/-! ### The first word, by its first byte -/
theorem lx_blank {c : UInt8} {r : List UInt8} (h : c = 32 ∨ c = 9 ∨ c = 10) : Bags.lexOne (c :: r) = some (none, 1) := by
  unfold Bags.lexOne; dsimp only; rw [if_pos h]
theorem lx_rem {c : UInt8} {r : List UInt8} (hb : ¬ (c = 32 ∨ c = 9 ∨ c = 10)) (h : c = 45 ∧ r.head? = some 45) : Bags.lexOne (c :: r) = some (none, ((c :: r).takeWhile (· != 10)).length) := by
  unfold Bags.lexOne; dsimp only; rw [if_neg hb, if_pos h]
theorem lx_letter {c : UInt8} {r : List UInt8} (h : Bags.letter c = true) :
    Bags.lexOne (c :: r) = some (some ⟨if Bags.keywords.contains ((c :: r).takeWhile Bags.alnum) then 1 else 2, (c :: r).takeWhile Bags.alnum, 0⟩, ((c :: r).takeWhile Bags.alnum).length) := by
  have hb : ¬ (c = 32 ∨ c = 9 ∨ c = 10) := by rintro (rfl | rfl | rfl) <;> revert h <;> decide
  have hr : ¬ (c = 45 ∧ r.head? = some 45) := by rintro ⟨rfl, _⟩; revert h; decide
  unfold Bags.lexOne; dsimp only; rw [if_neg hb, if_neg hr, if_pos h]
theorem lx_digit {c : UInt8} {r : List UInt8} (h : Bags.digit c = true) :
    Bags.lexOne (c :: r) = if Bags.natOf ((c :: r).takeWhile Bags.digit) < 2 ^ 63 then some (some ⟨3, [], Bags.natOf ((c :: r).takeWhile Bags.digit)⟩, ((c :: r).takeWhile Bags.digit).length) else none := by
  have hb : ¬ (c = 32 ∨ c = 9 ∨ c = 10) := by rintro (rfl | rfl | rfl) <;> revert h <;> decide
  have hr : ¬ (c = 45 ∧ r.head? = some 45) := by rintro ⟨rfl, _⟩; revert h; decide
  have hl : ¬ Bags.letter c = true := by
    rw [digit_eq] at h; rw [letter_eq]; simp at h ⊢; omega
  unfold Bags.lexOne; dsimp only; rw [if_neg hb, if_neg hr, if_neg hl, if_pos h]
theorem lx_quote {r : List UInt8} : Bags.lexOne (39 :: r) = (Bags.quo r).map fun p => (some ⟨4, p.1, 0⟩, p.2 + 1) := by
  unfold Bags.lexOne; dsimp only
  rw [if_neg (by decide), if_neg (by rintro ⟨h, _⟩; revert h; decide), if_neg (by decide), if_neg (by decide), if_pos rfl]
/-- None of the words that go by their first byte alone. -/
def Sign (c : UInt8) (r : List UInt8) : Prop := ¬ (c = 32 ∨ c = 9 ∨ c = 10) ∧ ¬ (c = 45 ∧ r.head? = some 45) ∧ ¬ Bags.letter c = true ∧ ¬ Bags.digit c = true ∧ c ≠ 39
theorem lx_two {c : UInt8} {r : List UInt8} (h : Sign c r) (h2 : Bags.two.contains ((c :: r).take 2) = true) : Bags.lexOne (c :: r) = some (some ⟨5, (c :: r).take 2, 0⟩, 2) := by
  obtain ⟨a, b, d, e, f⟩ := h
  unfold Bags.lexOne; dsimp only; rw [if_neg a, if_neg b, if_neg d, if_neg e, if_neg f, if_pos h2]
theorem lx_one {c : UInt8} {r : List UInt8} (h : Sign c r) (h2 : Bags.two.contains ((c :: r).take 2) = false) (h3 : Bags.ones.contains c = true) : Bags.lexOne (c :: r) = some (some ⟨5, [c], 0⟩, 1) := by
  obtain ⟨a, b, d, e, f⟩ := h
  unfold Bags.lexOne; dsimp only; rw [if_neg a, if_neg b, if_neg d, if_neg e, if_neg f, if_neg (by rw [h2]; decide), if_pos h3]
theorem lx_no {c : UInt8} {r : List UInt8} (h : Sign c r) (h2 : Bags.two.contains ((c :: r).take 2) = false) (h3 : Bags.ones.contains c = false) : Bags.lexOne (c :: r) = none := by
  obtain ⟨a, b, d, e, f⟩ := h
  unfold Bags.lexOne; dsimp only; rw [if_neg a, if_neg b, if_neg d, if_neg e, if_neg f, if_neg (by rw [h2]; decide), if_neg (by rw [h3]; decide)]

/-- What the loop holds of the words. -/
def Seen (s : ByteArray) (k : Nat) (acc : List Bags.W) : Prop := Bags.words (bs s) = Bags.ahead acc (Bags.lexAt (bs s) k)
theorem Seen.step {s : ByteArray} {k j : Nat} {w : Option Bags.W} {acc : List Bags.W} (h : Seen s k acc) (hk : k < s.size) (hx : Bags.lexOne ((bs s).drop k) = some (w, j)) : Seen s (k + j) (acc ++ w.toList) := by
  unfold Seen at *
  rw [h, Bags.lexAt_step (by rw [bs_length]; exact hk) hx, Bags.ahead_ahead]
theorem Seen.no {s : ByteArray} {k : Nat} {acc : List Bags.W} (h : Seen s k acc) (hk : k < s.size) (hx : Bags.lexOne ((bs s).drop k) = none) : Bags.words (bs s) = .inl k := by
  unfold Seen at h
  rw [h, Bags.lexAt_no (by rw [bs_length]; exact hk) hx]; rfl
theorem Seen.stop {s : ByteArray} {k : Nat} {acc : List Bags.W} (h : Seen s k acc) (hk : ¬ k < s.size) : Bags.words (bs s) = .inr acc := by
  unfold Seen at h
  rw [h, Bags.lexAt_end (by rw [bs_length]; omega)]; simp [Bags.ahead]
theorem bs_toList (s : ByteArray) : s.toList = bs s := ByteArray.toList_eq s
theorem size_extract_le (s : ByteArray) (a b : Nat) : (s.extract a b).size ≤ s.size := by
  rw [← bs_length, ← bs_length, extract_eq, List.length_take, List.length_drop]; omega
/-- A word by a span. -/
theorem span_word {p : UInt8 → Bool} {s : ByteArray} {k : Nat} (hk : k < s.size) (hc : p s[k] = true) : k < spanTo p s k ∧ spanTo p s k ≤ s.size ∧
    (s[k] :: (bs s).drop (k + 1)).takeWhile p = bs (s.extract k (spanTo p s k)) ∧ ((s[k] :: (bs s).drop (k + 1)).takeWhile p).length = spanTo p s k - k := by
  have h1 := spanTo_le p s k (by omega)
  have h2 := spanTo_yes hk hc
  have h3 := spanTo_le p s (k + 1) (by omega)
  rw [← drop_cons s k hk]
  refine ⟨by omega, h1.2, (span_text p s k).symm, ?_⟩
  unfold spanTo; omega
theorem step_le {s : ByteArray} {k j : Nat} {w : Option Bags.W} (hk : k < s.size) (hx : Bags.lexOne ((bs s).drop k) = some (w, j)) : 1 ≤ j ∧ k + j ≤ s.size := by
  have := Bags.lexOne_len hx
  rw [List.length_drop, bs_length] at this
  omega

theorem takeWhile_all (c : UInt8) (l : List UInt8) : (((l.takeWhile (· != c)).length : Int) == l.length) = !l.contains c := by
  induction l with
  | nil => rfl
  | cons d r ih =>
    have hl := Bags.takeWhile_len (· != c) r
    by_cases h : d = c
    · subst h; simp; omega
    · have h' : c ≠ d := fun e => h e.symm
      have e1 : (d != c) = true := by simpa using h
      have e2 : (c == d) = false := by simpa using h'
      rw [List.takeWhile_cons, e1, List.contains_cons, e2, Bool.false_or, ← ih, if_pos rfl, Bool.eq_iff_iff]
      simp
def onesB : ByteArray := ⟨#[40, 41, 44, 46, 42, 43, 45, 47, 37, 61, 60, 62]⟩
theorem onesB_eq : bs onesB = Bags.ones := by decide
theorem ones_test (c : UInt8) : ((spanTo (· != c) onesB 0 : Int) == 12) = !Bags.ones.contains c := by
  have := takeWhile_all c Bags.ones
  unfold spanTo
  rw [List.drop_zero, onesB_eq, Nat.zero_add, ← this]
  rfl
theorem ones_span (c : UInt8) (p : Addr) (w : World) (hc : w.cell? p = some (.int .u8 c.toNat)) :
    Calls Tryz.prog 45 #[.string ⟨#[40, 41, 44, 46, 42, 43, 45, 47, 37, 61, 60, 62]⟩, .int .i64 0, .func (.func 79) #[] #[.pointer (some p)]] w fun e w' =>
      e = .returned (.int .i64 (spanTo (· != c) onesB 0)) ∧ w = w' :=
  span_any 79 #[.pointer (some p)] (· != c) onesB 0 w (by unfold maxLen; decide) (by decide) Tryz.call79 (fun d => other_any c d p w hc)

/-- What words answers. -/
def WordsPost (s : ByteArray) (w : World) (e : Ending) (w' : World) : Prop :=
  Below w.heap.size w w' ∧ match Bags.words (bs s) with
    | .inl p => ∃ b, e = .panicked (thrown b) ∧ w.heap.size ≤ b ∧ Blk w' b 75 #[.int .i64 2, .int .i64 p]
    | .inr ws => ∃ v, e = .returned v ∧ w'.ownsRow w.heap.size 149 3 v (ws.length + 1) ((ws ++ [Bags.endW]).flatMap wordCells)
theorem post_no {s : ByteArray} {w w' : World} {p b : Nat} (h : Bags.words (bs s) = .inl p) (hb : Below w.heap.size w w') (hbb : w.heap.size ≤ b) (hB : Blk w' b 75 #[.int .i64 2, .int .i64 p]) :
    WordsPost s w (.panicked (thrown b)) w' := by
  refine ⟨hb, ?_⟩
  rw [h]; exact ⟨b, rfl, hbb, hB⟩

end Go.Proofs.YtoephflcjllaaaaGreatDoor
