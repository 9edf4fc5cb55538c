/- The words of a text; what a text is; how a query is printed. A plain text. -/
import Derived.Test.YtoephflcjllaaaaGreatDoorGram
namespace Bags
def letter (c : UInt8) : Bool := c == 95 || (97 ≤ c && c ≤ 122) || (65 ≤ c && c ≤ 90)
def digit (c : UInt8) : Bool := 48 ≤ c && c ≤ 57
def alnum (c : UInt8) : Bool := letter c || digit c
def keywords : List Str := [str "select", str "distinct", str "from", str "where", str "group", str "by", str "having", str "as", str "union", str "intersect", str "except",
  str "all", str "any", str "and", str "or", str "not", str "exists", str "in", str "is", str "null", str "count", str "sum", str "min", str "max"]
def natOf (l : Str) : Nat := l.foldl (fun n c => 10 * n + (c.toNat - 48)) 0
/-- Behind a quote: the text, and how many bytes it takes with the quote that ends it. -/
def quo : Str → Option (Str × Nat)
  | [] => none
  | c :: r =>
    if c = 10 then none
    else if c = 39 then
      match r with
      | 39 :: r' => (quo r').map fun p => (39 :: p.1, p.2 + 2)
      | _ => some ([], 1)
    else (quo r).map fun p => (c :: p.1, p.2 + 1)
def two : List Str := [str "<>", str "<=", str ">="]
def ones : Str := str "(),.*+-/%=<>"
/-- The first word of a text that is not empty, if one begins it (blanks and remarks are none), and how many bytes it takes; none: none can begin here. -/
def lexOne (s : Str) : Option (Option W × Nat) :=
  match s with
  | [] => none
  | c :: r =>
    if c = 32 ∨ c = 9 ∨ c = 10 then some (none, 1)
    else if c = 45 ∧ r.head? = some 45 then some (none, (s.takeWhile (· != 10)).length)
    else if letter c then
      let t := s.takeWhile alnum
      some (some ⟨if keywords.contains t then 1 else 2, t, 0⟩, t.length)
    else if digit c then
      let t := s.takeWhile digit
      if natOf t < 2 ^ 63 then some (some ⟨3, [], natOf t⟩, t.length) else none
    else if c = 39 then (quo r).map fun p => (some ⟨4, p.1, 0⟩, p.2 + 1)
    else if two.contains (s.take 2) then some (some ⟨5, s.take 2, 0⟩, 2)
    else if ones.contains c then some (some ⟨5, [c], 0⟩, 1)
    else none
/-- The words of a text from its byte pos on, or the byte at which none begins. -/
def lex : Nat → Nat → Str → Nat ⊕ List W
  | 0, _, _ => .inr []
  | n+1, pos, s =>
    match s with
    | [] => .inr []
    | _ :: _ =>
      match lexOne s with
      | none => .inl pos
      | some (w, k) =>
        match lex n (pos + k) (s.drop k) with
        | .inl p => .inl p
        | .inr ws => .inr (w.toList ++ ws)
def words (s : Str) : Nat ⊕ List W := if s.length > 400 then .inl 400 else lex (s.length + 1) 0 s

def deepFrom : Int → List W → Bool
  | _, [] => false
  | n, w :: r =>
    let n' := if w.is 5 [str "("] then n + 1 else if w.is 5 [str ")"] then n - 1 else n
    decide (16 < n') || deepFrom n' r

/-- What a text is: a query, or the error and its place. -/
def Reading (s : Str) (y : (Nat × Nat) ⊕ T) : Prop :=
  match words s with
  | .inl p => y = .inl (2, p)
  | .inr ws => (∃ t, G .query ws t ∧ y = if deepFrom 0 ws then .inl (4, 0) else .inr t) ∨ ((∀ t, ¬ G .query ws t) ∧ y = .inl (3, 0))
theorem Reading.uniq {s : Str} {y y' : (Nat × Nat) ⊕ T} (h : Reading s y) (h' : Reading s y') : y = y' := by
  unfold Reading at h h'
  split at h
  · simp_all
  · rename_i ws hw
    simp only [hw] at h'
    rcases h with ⟨t, g, rfl⟩ | ⟨n, rfl⟩ <;> rcases h' with ⟨t', g', rfl⟩ | ⟨n', rfl⟩
    · rw [query_uniq g g']
    · exact absurd g (n' t)
    · exact absurd g' (n t')
    · rfl

/-! ### Printed -/
def dec (n : Nat) : Str := if h : n < 10 then [UInt8.ofNat (48 + n)] else dec (n / 10) ++ [UInt8.ofNat (48 + n % 10)]
termination_by n
decreasing_by omega
def decInt (n : Int) : Str := if n < 0 then 45 :: dec n.natAbs else dec n.natAbs
def quote (s : Str) : Str := 39 :: (s.flatMap fun c => if c = 39 then [39, 39] else [c]) ++ [39]
def named (s a : Str) : Str := if a = [] then s else s ++ str " as " ++ a
def T.print : T → Str
  | .none => []
  | .num n => decInt n
  | .text s => quote s
  | .null => str "null"
  | .col o n => if o = [] then n else o ++ str "." ++ n
  | .neg a => str "(-" ++ a.print ++ str ")"
  | .bin s a b => str "(" ++ a.print ++ str " " ++ s ++ str " " ++ b.print ++ str ")"
  | .agg fn .none => fn ++ str "(*)"
  | .agg fn a => fn ++ str "(" ++ a.print ++ str ")"
  | .junct s a b => str "(" ++ a.print ++ str " " ++ s ++ str " " ++ b.print ++ str ")"
  | .not a => str "(not " ++ a.print ++ str ")"
  | .exist q => str "exists (" ++ q.print ++ str ")"
  | .isnull a n => a.print ++ str " is " ++ (if n then str "not " else []) ++ str "null"
  | .isin a n q => a.print ++ str " " ++ (if n then str "not " else []) ++ str "in (" ++ q.print ++ str ")"
  | .cmp s a b => a.print ++ str " " ++ s ++ str " " ++ b.print
  | .quant s h a q => a.print ++ str " " ++ s ++ str " " ++ h ++ str " (" ++ q.print ++ str ")"
  | .comb s all a b => str "(" ++ a.print ++ str " " ++ s ++ (if all then str " all" else []) ++ str " " ++ b.print ++ str ")"
  | .sel d it f w g h => str "select " ++ (if d then str "distinct " else []) ++ (match it with | .none => str "*" | _ => it.print) ++ str " from " ++ f.print ++
      (match w with | .none => [] | _ => str " where " ++ w.print) ++ (match g with | .none => [] | _ => str " group by " ++ g.print) ++ (match h with | .none => [] | _ => str " having " ++ h.print)
  | .cons a .none => a.print
  | .cons a l => a.print ++ str ", " ++ l.print
  | .item e a => named e.print a
  | .src t a => named t a
end Bags
namespace Bags
theorem takeWhile_len (p : UInt8 → Bool) (s : Str) : (s.takeWhile p).length ≤ s.length := (List.takeWhile_sublist p).length_le
theorem quo_len : ∀ {s t : Str} {k : Nat}, quo s = some (t, k) → 1 ≤ k ∧ k ≤ s.length := by
  suffices h : ∀ n s t k, s.length ≤ n → quo s = some (t, k) → 1 ≤ k ∧ k ≤ s.length from fun {s t k} h' => h _ s t k (Nat.le_refl _) h'
  intro n
  induction n with
  | zero => intro s t k hn h; rw [List.eq_nil_of_length_eq_zero (by omega : s.length = 0)] at h; simp [quo] at h
  | succ n ih =>
    intro s t k hn h
    cases s with
    | nil => simp [quo] at h
    | cons c r =>
      unfold quo at h
      split at h
      · cases h
      · split at h
        · split at h
          · simp only [Option.map_eq_some_iff, Prod.mk.injEq] at h
            obtain ⟨p, hq, _, h2⟩ := h
            have := ih _ p.1 p.2 (by simp at hn; omega) hq
            simp only [List.length_cons] at hn ⊢
            omega
          · simp only [Option.some.injEq, Prod.mk.injEq] at h
            simp only [List.length_cons]; omega
        · cases hq : quo r with
          | none => simp [hq] at h
          | some p =>
            simp only [hq, Option.map_some, Option.some.injEq, Prod.mk.injEq] at h
            have := ih r p.1 p.2 (by simp at hn; omega) hq
            simp only [List.length_cons] at hn ⊢
            omega
theorem takeWhile_pos {p : UInt8 → Bool} {c : UInt8} {r : Str} (h : p c = true) : 1 ≤ ((c :: r).takeWhile p).length := by
  simp [h]
theorem lexOne_len {s : Str} {w : Option W} {k : Nat} (h : lexOne s = some (w, k)) : 1 ≤ k ∧ k ≤ s.length := by
  unfold lexOne at h
  split at h
  · cases h
  · rename_i c r
    have aux : ∀ {o : Option W} {n : Nat}, some (o, n) = some (w, k) → n = k := fun e => by injection e with e; injection e
    split at h
    · rw [← aux h]; simp
    · split at h
      · rename_i hc; rw [← aux h]; exact ⟨takeWhile_pos (by rw [hc.1]; decide), takeWhile_len _ _⟩
      · split at h
        · rename_i hc; rw [← aux h]; exact ⟨takeWhile_pos (by simp [alnum, hc]), takeWhile_len _ _⟩
        · split at h
          · rename_i hc
            dsimp only at h
            split at h
            · rw [← aux h]; exact ⟨takeWhile_pos hc, takeWhile_len _ _⟩
            · cases h
          · split at h
            · cases hq : quo r with
              | none => simp [hq] at h
              | some p =>
                simp only [hq, Option.map_some] at h
                rw [← aux h]
                have := quo_len (t := p.1) (k := p.2) hq
                simp only [List.length_cons]; omega
            · split at h
              · rename_i hc
                rw [← aux h]
                refine ⟨by omega, ?_⟩
                cases r with
                | nil =>
                  exfalso
                  have h2 : ∀ t ∈ two, t.length = 2 := by decide
                  have := h2 _ (List.contains_iff_mem.1 hc)
                  simp at this
                | cons d r => simp
              · split at h
                · rw [← aux h]; simp
                · cases h
theorem lex_fuel : ∀ (n m pos : Nat) (s : Str), s.length < n → s.length < m → lex n pos s = lex m pos s
  | 0, _, _, _, h, _ => by omega
  | _+1, 0, _, _, _, h => by omega
  | n+1, m+1, pos, s, h, h' => by
    cases s with
    | nil => simp [lex]
    | cons c r =>
      simp only [lex]
      cases hl : lexOne (c :: r) with
      | none => rfl
      | some p =>
        obtain ⟨w, k⟩ := p
        have := lexOne_len hl
        simp only
        rw [lex_fuel n m (pos + k) _ (by simp only [List.length_drop, List.length_cons] at *; omega) (by simp only [List.length_drop, List.length_cons] at *; omega)]
/-- Words ahead of what comes. -/
def ahead (l : List W) : Nat ⊕ List W → Nat ⊕ List W
  | .inl p => .inl p
  | .inr ws => .inr (l ++ ws)
theorem ahead_nil (x : Nat ⊕ List W) : ahead [] x = x := by cases x <;> rfl
theorem ahead_ahead (l m : List W) (x : Nat ⊕ List W) : ahead l (ahead m x) = ahead (l ++ m) x := by cases x <;> simp [ahead]
/-- The words from the byte k on. -/
def lexAt (s : Str) (k : Nat) : Nat ⊕ List W := lex (s.length + 1) k (s.drop k)
theorem lexAt_end {s : Str} {k : Nat} (h : s.length ≤ k) : lexAt s k = .inr [] := by
  unfold lexAt; rw [List.drop_of_length_le h]; simp [lex]
theorem lexAt_no {s : Str} {k : Nat} (hk : k < s.length) (h : lexOne (s.drop k) = none) : lexAt s k = .inl k := by
  unfold lexAt
  cases hd : s.drop k with
  | nil => have := congrArg List.length hd; simp at this; omega
  | cons c r => rw [hd] at h; simp only [lex, h]
theorem lexAt_step {s : Str} {k j : Nat} {w : Option W} (hk : k < s.length) (h : lexOne (s.drop k) = some (w, j)) : lexAt s k = ahead w.toList (lexAt s (k + j)) := by
  have hj := lexOne_len h
  have e : (s.drop k).drop j = s.drop (k + j) := by rw [List.drop_drop]
  unfold lexAt
  cases hd : s.drop k with
  | nil => have := congrArg List.length hd; simp at this; omega
  | cons c r =>
    rw [hd] at h e
    conv => lhs; unfold lex
    simp only [h, e]
    rw [lex_fuel s.length (s.length + 1) (k + j) _ (by simp only [List.length_drop] at *; omega) (by simp only [List.length_drop] at *; omega)]
    cases lex (s.length + 1) (k + j) (s.drop (k + j)) <;> rfl
theorem words_at (s : Str) (h : ¬ 400 < s.length) : words s = lexAt s 0 := by
  unfold words lexAt; rw [if_neg h]; rfl
end Bags
