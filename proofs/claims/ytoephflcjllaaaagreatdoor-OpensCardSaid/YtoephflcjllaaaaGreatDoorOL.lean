/- The tables' text: lines, pieces, names, values; at which line it is wrong. A plain text. -/
import Derived.Test.YtoephflcjllaaaaGreatDoorRA
namespace Bags
/-- The first piece of a line that is not empty (a blank is none), and how many bytes it takes; none: none can begin here. -/
def pieceLen (s : Str) : Nat := match s with
  | [] => 0
  | c :: r => if c = 39 then (match quo r with | some p => p.2 + 1 | none => 0) else (s.takeWhile fun c => c != 32 && c != 39).length
def pieceEnds (s : Str) : Bool := match s with
  | [] => true
  | d :: _ => d == 32
def pieceOne (s : Str) : Option (Option Str × Nat) :=
  match s with
  | [] => none
  | c :: _ => if c = 32 then some (none, 1) else if pieceLen s = 0 then none else if pieceEnds (s.drop (pieceLen s)) then some (some (s.take (pieceLen s)), pieceLen s) else none
def pieceLoop : Nat → Str → Option (List Str)
  | 0, _ => some []
  | n+1, s => match s with
    | [] => some []
    | _ :: _ => match pieceOne s with
      | none => none
      | some (p, k) => (pieceLoop n (s.drop k)).map (p.toList ++ ·)
def pieces (s : Str) : Option (List Str) := pieceLoop (s.length + 1) s

theorem pieceLen_le (s : Str) : pieceLen s ≤ s.length := by
  unfold pieceLen
  split
  · simp
  · rename_i c r
    split
    · cases hq : quo r with
      | none => simp
      | some p => have := quo_len (t := p.1) (k := p.2) hq; simp only [List.length_cons]; omega
    · exact takeWhile_len _ _
theorem pieceOne_len {s : Str} {w : Option Str} {k : Nat} (h : pieceOne s = some (w, k)) : 1 ≤ k ∧ k ≤ s.length := by
  unfold pieceOne at h
  split at h
  · cases h
  · rename_i c r
    have aux : ∀ {o : Option Str} {n : Nat}, some (o, n) = some (w, k) → n = k := fun e => by injection e with e; injection e
    split at h
    · rw [← aux h]; simp
    · split at h
      · cases h
      · split at h
        · rw [← aux h]; exact ⟨by omega, pieceLen_le _⟩
        · cases h
theorem pieceOne_text {s : Str} {p : Str} {k : Nat} (h : pieceOne s = some (some p, k)) : p ≠ [] ∧ p.length ≤ s.length := by
  have hl := pieceOne_len h
  unfold pieceOne at h
  split at h
  · cases h
  · rename_i c r
    split at h
    · cases h
    · split at h
      · cases h
      · split at h
        · injection h with h
          injection h with h1 h2
          injection h1 with h1
          have := congrArg List.length h1
          rw [List.length_take, h2] at this
          refine ⟨fun e => ?_, by omega⟩
          rw [e] at this; simp at this; simp at hl; omega
        · cases h
theorem pieceLoop_fuel : ∀ (n m : Nat) (s : Str), s.length < n → s.length < m → pieceLoop n s = pieceLoop m s
  | 0, _, _, h, _ => by omega
  | _+1, 0, _, _, h => by omega
  | n+1, m+1, s, h, h' => by
    cases s with
    | nil => simp [pieceLoop]
    | cons c r =>
      simp only [pieceLoop]
      cases hl : pieceOne (c :: r) with
      | none => rfl
      | some p =>
        obtain ⟨w, k⟩ := p
        have := pieceOne_len hl
        simp only
        rw [pieceLoop_fuel n m _ (by simp only [List.length_drop, List.length_cons] at *; omega) (by simp only [List.length_drop, List.length_cons] at *; omega)]
/-- The pieces from the byte k on. -/
def piecesAt (s : Str) (k : Nat) : Option (List Str) := pieceLoop (s.length + 1) (s.drop k)
theorem piecesAt_end {s : Str} {k : Nat} (h : s.length ≤ k) : piecesAt s k = some [] := by
  unfold piecesAt; rw [List.drop_of_length_le h]; simp [pieceLoop]
theorem piecesAt_no {s : Str} {k : Nat} (hk : k < s.length) (h : pieceOne (s.drop k) = none) : piecesAt s k = none := by
  unfold piecesAt
  cases hd : s.drop k with
  | nil => have := congrArg List.length hd; simp at this; omega
  | cons c r => rw [hd] at h; simp only [pieceLoop, h]
theorem piecesAt_step {s : Str} {k j : Nat} {w : Option Str} (hk : k < s.length) (h : pieceOne (s.drop k) = some (w, j)) : piecesAt s k = (piecesAt s (k + j)).map (w.toList ++ ·) := by
  have hj := pieceOne_len h
  have e : (s.drop k).drop j = s.drop (k + j) := by rw [List.drop_drop]
  unfold piecesAt
  cases hd : s.drop k with
  | nil => have := congrArg List.length hd; simp at this; omega
  | cons c r =>
    rw [hd] at h e
    conv => lhs; unfold pieceLoop
    simp only [h, e]
    rw [pieceLoop_fuel s.length (s.length + 1) _ (by simp only [List.length_drop] at *; omega) (by simp only [List.length_drop] at *; omega)]
theorem pieces_text : ∀ (n : Nat) (s : Str) (l : List Str), pieceLoop n s = some l → (∀ p ∈ l, p ≠ [] ∧ p.length ≤ s.length) ∧ l.length ≤ s.length
  | 0, _, l, h => by simp [pieceLoop] at h; subst h; simp
  | n+1, s, l, h => by
    cases s with
    | nil => simp [pieceLoop] at h; subst h; simp
    | cons c r =>
      simp only [pieceLoop] at h
      cases hl : pieceOne (c :: r) with
      | none => rw [hl] at h; cases h
      | some p =>
        obtain ⟨w, k⟩ := p
        rw [hl] at h
        simp only [Option.map_eq_some_iff] at h
        obtain ⟨l', h1, h2⟩ := h
        have hk := pieceOne_len hl
        obtain ⟨i1, i2⟩ := pieces_text n _ l' h1
        rw [List.length_drop] at i2
        refine ⟨fun p hp => ?_, ?_⟩
        · rw [← h2, List.mem_append] at hp
          rcases hp with hp | hp
          · cases w with
            | none => cases hp
            | some q => simp at hp; subst hp; exact pieceOne_text hl
          · have := i1 p hp
            rw [List.length_drop] at this
            exact ⟨this.1, by omega⟩
        · rw [← h2, List.length_append]
          cases w <;> simp at * <;> omega

/-! ### Names, values -/
def nameP (s : Str) : Bool := match s with
  | [] => false
  | c :: _ => letter c && decide ((s.takeWhile alnum).length = s.length) && !keywords.contains s
def intOK (s : Str) : Bool :=
  let neg := s.head? == some 45
  let d := if neg then s.drop 1 else s
  d ≠ [] && d.all digit && decide (natOf d < 2 ^ 63 + if neg then 1 else 0)
/-- May that piece stand in a column (of texts: t)? -/
def valOK (s : Str) (t : Bool) : Bool := if s = str "null" then true else if s.head? = some 39 then t else intOK s && !t
/-- The columns: names and kinds. -/
def colsOf : List Str → List Str → Option (List Bool)
  | _, [] => some []
  | _, [_] => none
  | seen, a :: k :: r => if nameP a && !seen.contains a && (k == str "int" || k == str "text") then (colsOf (seen ++ [a]) r).map ((k == str "text") :: ·) else none
/-- A table's line: its name, and its columns' kinds. -/
def headOf (l : List Str) : Option (Str × List Bool) :=
  if l.length < 4 ∨ l.length % 2 = 1 ∨ 14 < l.length then none else
  match l with
  | _ :: n :: r => if nameP n then (colsOf [] r).map fun c => (n, c) else none
  | _ => none
def rowOK (l : List Str) (kinds : List Bool) : Bool := decide (l.length = kinds.length) && (l.zip kinds).all fun p => valOK p.1 p.2

/-- The names of the tables; the last one's kinds and how many rows it has. -/
structure Tabs where
  names : List Str
  kinds : List Bool
  rows : Nat
def lineOne (t : Tabs) (s : Str) : Option Tabs :=
  match pieces s with
  | none => none
  | some [] => some t
  | some (w :: l) =>
    if w = str "table" then match headOf (w :: l) with
      | none => none
      | some (n, c) => if t.names.contains n || t.names.length == 8 then none else some ⟨t.names ++ [n], c, 0⟩
    else if w = str "row" ∧ t.names ≠ [] ∧ t.rows ≠ 12 ∧ rowOK l t.kinds = true then some { t with rows := t.rows + 1 } else none
/-- From the line n (of 0) on: the line (of 1) that is wrong; none: none is. -/
def dataFrom : Nat → Tabs → List Str → Option Nat
  | _, _, [] => none
  | n, t, s :: r => match lineOne t s with
    | none => some (n + 1)
    | some t' => dataFrom (n + 1) t' r
def linesOf : Str → List Str
  | [] => [[]]
  | c :: r => if c = 10 then [] :: linesOf r else match linesOf r with
    | [] => [[c]]
    | l :: ls => (c :: l) :: ls
def dataOf (s : Str) : Option Nat := if 4000 < s.length then some 0 else dataFrom 0 ⟨[], [], 0⟩ (linesOf s)

/-! ### What the reference asks by texts -/
set_option maxRecDepth 100000 in
theorem lettersS_eq (c : UInt8) : lettersS.contains c = letter c := by
  have : ∀ n : Fin 256, lettersS.contains (UInt8.ofNat n) = letter (UInt8.ofNat n) := by decide
  have h := this ⟨c.toNat, c.toNat_lt⟩
  simpa using h
set_option maxRecDepth 100000 in
theorem digitsS_eq (c : UInt8) : digitsS.contains c = digit c := by
  have : ∀ n : Fin 256, digitsS.contains (UInt8.ofNat n) = digit (UInt8.ofNat n) := by decide
  have h := this ⟨c.toNat, c.toNat_lt⟩
  simpa using h
set_option maxRecDepth 100000 in
theorem alnumS_eq (c : UInt8) : alnumS.contains c = alnum c := by
  have : ∀ n : Fin 256, alnumS.contains (UInt8.ofNat n) = alnum (UInt8.ofNat n) := by decide
  have h := this ⟨c.toNat, c.toNat_lt⟩
  simpa using h

theorem takeWhile_stop (p : UInt8 → Bool) (a : UInt8) (ha : p a = false) : ∀ (s r : Str), (∀ c ∈ s, p c = true) → (s ++ a :: r).takeWhile p = s
  | [], r, _ => by simp [ha]
  | c :: s, r, h => by
    rw [List.cons_append, List.takeWhile_cons, if_pos (h c (by simp)), takeWhile_stop p a ha s r (fun x hx => h x (by simp [hx]))]
set_option maxRecDepth 100000 in
theorem reserved_all : ∀ k : Fin 125, k.val + 1 < reserved.length → reserved[k.val]? = some 32 → keywords.contains ((reserved.drop (k.val + 1)).takeWhile (· != 32)) = true := by decide
set_option maxRecDepth 100000 in
theorem keywords_in : ∀ kw ∈ keywords, isIn ([32] ++ kw ++ [32]) reserved = true := by decide
set_option maxRecDepth 100000 in
theorem reserved_length : reserved.length = 125 := by decide
theorem keyIn_eq {s : Str} (hs : ∀ c ∈ s, c ≠ 32) : keyIn s = keywords.contains s := by
  rw [Bool.eq_iff_iff]
  constructor
  · intro h
    unfold keyIn at h
    obtain ⟨k, h1, h2⟩ := isIn_iff.1 h
    have hl : ([32] ++ s ++ [32] : Str).length = s.length + 2 := by simp
    rw [hl] at h1 h2
    have hd : reserved.drop k = 32 :: (s ++ 32 :: (reserved.drop k).drop (s.length + 2)) := by
      conv => lhs; rw [← List.take_append_drop (s.length + 2) (reserved.drop k), h2]
      simp
    have hk : reserved[k]? = some 32 := by
      have := congrArg (·[0]?) hd
      simpa using this
    have hd2 : reserved.drop (k + 1) = s ++ 32 :: (reserved.drop k).drop (s.length + 2) := by
      rw [← List.drop_drop]
      conv => lhs; rw [hd]
      rfl
    have := reserved_all ⟨k, by rw [← reserved_length]; omega⟩ (by simp only; omega) hk
    rw [show (⟨k, by rw [← reserved_length]; omega⟩ : Fin 125).val = k from rfl, hd2, takeWhile_stop (· != 32) 32 (by decide) s _ (fun c hc => by simpa using hs c hc)] at this
    exact this
  · intro h
    exact keywords_in s (List.contains_iff_mem.1 h)
theorem alnum_not32 {c : UInt8} (h : alnum c = true) : c ≠ 32 := by rintro rfl; revert h; decide
theorem takeWhile_full {p : UInt8 → Bool} : ∀ {s : Str}, (s.takeWhile p).length = s.length → ∀ c ∈ s, p c = true
  | [], _, c, hc => by cases hc
  | a :: s, h, c, hc => by
    rw [List.takeWhile_cons] at h
    by_cases ha : p a = true
    · rw [if_pos ha] at h
      simp at h
      rcases List.mem_cons.1 hc with rfl | hc
      · exact ha
      · exact takeWhile_full h c hc
    · rw [if_neg ha] at h; simp at h
theorem alnumS_fun : alnumS.contains = alnum := funext alnumS_eq
theorem lettersS_fun : lettersS.contains = letter := funext lettersS_eq
theorem digitsS_fun : digitsS.contains = digit := funext digitsS_eq
theorem nameIn_eq (s : Str) : nameIn s = nameP s := by
  cases s with
  | nil => rfl
  | cons c r =>
    unfold nameIn nameP
    dsimp only
    rw [lettersS_eq, alnumS_fun]
    by_cases h : ((c :: r).takeWhile alnum).length = (c :: r).length
    · rw [keyIn_eq fun x hx => alnum_not32 (takeWhile_full h x hx)]
    · rw [decide_eq_false h]; simp

/-! ### Numbers -/
theorem natFrom0 (l : Str) : natOf l = l.foldl (fun n c => 10 * n + (c.toNat - 48)) 0 := rfl
end Bags
