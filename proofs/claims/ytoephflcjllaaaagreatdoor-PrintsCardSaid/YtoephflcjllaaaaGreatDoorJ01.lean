/- The grammar of the query language, the reader that goes through the words from the left, and the proof that they agree. A plain text: no program stands in it. -/
namespace Bags
abbrev Str := List UInt8

/-- A word: sort 0 end, 1 key, 2 name, 3 number, 4 text, 5 sign. -/
structure W where
  sort : Nat
  text : Str
  num : Int
deriving DecidableEq

/-- A part of a query. -/
inductive T where
  | none
  | num (n : Int)
  | text (s : Str)
  | null
  | col (o name : Str)
  | neg (a : T)
  | bin (s : Str) (a b : T)
  | agg (fn : Str) (a : T)
  | junct (s : Str) (a b : T)
  | not (a : T)
  | exist (q : T)
  | isnull (a : T) (n : Bool)
  | isin (a : T) (n : Bool) (q : T)
  | cmp (s : Str) (a b : T)
  | quant (s how : Str) (a q : T)
  | comb (s : Str) (all : Bool) (a b : T)
  | sel (d : Bool) (items sources wher group having : T)
  | cons (a b : T)
  | item (e : T) (as_ : Str)
  | src (table as_ : Str)

/-- A list with one more behind it. -/
def T.snoc : T → T → T
  | .cons a l, x => .cons a (l.snoc x)
  | _, x => .cons x .none

def str (s : String) : Str := s.toUTF8.data.toList

def endW : W := ⟨0, [], 0⟩
def hd (ws : List W) : W := ws.headD endW
def W.is (w : W) (s : Nat) (ts : List Str) : Bool := w.sort == s && ts.contains w.text

abbrev R := Option (Option (T × List W))
def miss : R := some .none
def ok (t : T) (r : List W) : R := some (some (t, r))
def R.andThen (x : R) (f : T → List W → R) : R :=
  match x with
  | .none => .none
  | some .none => some .none
  | some (some (t, r)) => f t r

/-- That, or if it is not there the other. -/
def R.tried (x y : R) (f : T → List W → R) : R :=
  match x with
  | .none => .none
  | some .none => y
  | some (some (t, r)) => f t r

inductive M where
  | query | queryL (q : T) | core | sub | tail (d : Bool) (it : T) | after (d : Bool) (it f w : T)
  | items | itemsL (l : T) | item | sources | sourcesL (l : T) | source | cols | colsL (l : T) | col
  | cond | condL (c : T) | conj | conjL (c : T) | neg | basic | basicE
  | expr | exprL (e : T) | term | termL (e : T) | factor

def setOps : List Str := [str "union", str "intersect", str "except"]
def cmps : List Str := [str "=", str "<>", str "<", str "<=", str ">", str ">="]
def adds : List Str := [str "+", str "-"]
def muls : List Str := [str "*", str "/", str "%"]
def fns : List Str := [str "count", str "sum", str "min", str "max"]

def asOf (e : Str → T) (ws : List W) : R :=
  if (hd ws).is 1 [str "as"] then
    if (hd ws.tail).sort = 2 then ok (e (hd ws.tail).text) ws.tail.tail else miss
  else ok (e []) ws

def par : Nat → M → List W → R
  | 0, _, _ => .none
  | n+1, .query, ws => (par n .core ws).andThen fun q r => par n (.queryL q) r
  | n+1, .queryL q, ws =>
    if (hd ws).is 1 setOps then
      if (hd ws.tail).is 1 [str "all"] then
        (par n .core ws.tail.tail).andThen fun b r => par n (.queryL (.comb (hd ws).text true q b)) r
      else (par n .core ws.tail).andThen fun b r => par n (.queryL (.comb (hd ws).text false q b)) r
    else ok q ws
  | n+1, .sub, ws =>
    if (hd ws).is 5 [str "("] then
      (par n .query ws.tail).andThen fun q r => if (hd r).is 5 [str ")"] then ok q r.tail else miss
    else miss
  | n+1, .core, ws =>
    if (hd ws).is 5 [str "("] then par n .sub ws
    else if (hd ws).is 1 [str "select"] then
      let d := (hd ws.tail).is 1 [str "distinct"]
      let r := if d then ws.tail.tail else ws.tail
      if (hd r).is 5 [str "*"] then par n (.tail d .none) r.tail
      else (par n .items r).andThen fun it r => par n (.tail d it) r
    else miss
  | n+1, .tail d it, ws =>
    if (hd ws).is 1 [str "from"] then
      (par n .sources ws.tail).andThen fun f r =>
        if (hd r).is 1 [str "where"] then (par n .cond r.tail).andThen fun w r => par n (.after d it f w) r
        else par n (.after d it f .none) r
    else miss
  | n+1, .after d it f w, ws =>
    if (hd ws).is 1 [str "group"] then
      if (hd ws.tail).is 1 [str "by"] then
        (par n .cols ws.tail.tail).andThen fun g r =>
          if (hd r).is 1 [str "having"] then (par n .cond r.tail).andThen fun h r => ok (.sel d it f w g h) r
          else ok (.sel d it f w g .none) r
      else miss
    else ok (.sel d it f w .none .none) ws
  | n+1, .items, ws => (par n .item ws).andThen fun x r => par n (.itemsL (.cons x .none)) r
  | n+1, .itemsL l, ws =>
    if (hd ws).is 5 [str ","] then (par n .item ws.tail).andThen fun x r => par n (.itemsL (l.snoc x)) r else ok l ws
  | n+1, .item, ws => (par n .expr ws).andThen fun e r => asOf (.item e) r
  | n+1, .sources, ws => (par n .source ws).andThen fun x r => par n (.sourcesL (.cons x .none)) r
  | n+1, .sourcesL l, ws =>
    if (hd ws).is 5 [str ","] then (par n .source ws.tail).andThen fun x r => par n (.sourcesL (l.snoc x)) r else ok l ws
  | _+1, .source, ws => if (hd ws).sort = 2 then asOf (.src (hd ws).text) ws.tail else miss
  | n+1, .cols, ws => (par n .col ws).andThen fun x r => par n (.colsL (.cons x .none)) r
  | n+1, .colsL l, ws =>
    if (hd ws).is 5 [str ","] then (par n .col ws.tail).andThen fun x r => par n (.colsL (l.snoc x)) r else ok l ws
  | _+1, .col, ws =>
    if (hd ws).sort = 2 then
      if (hd ws.tail).is 5 [str "."] then
        if (hd ws.tail.tail).sort = 2 then ok (.col (hd ws).text (hd ws.tail.tail).text) ws.tail.tail.tail else miss
      else ok (.col [] (hd ws).text) ws.tail
    else miss
  | n+1, .cond, ws => (par n .conj ws).andThen fun c r => par n (.condL c) r
  | n+1, .condL c, ws =>
    if (hd ws).is 1 [str "or"] then (par n .conj ws.tail).andThen fun b r => par n (.condL (.junct (hd ws).text c b)) r else ok c ws
  | n+1, .conj, ws => (par n .neg ws).andThen fun c r => par n (.conjL c) r
  | n+1, .conjL c, ws =>
    if (hd ws).is 1 [str "and"] then (par n .neg ws.tail).andThen fun b r => par n (.conjL (.junct (hd ws).text c b)) r else ok c ws
  | n+1, .neg, ws => if (hd ws).is 1 [str "not"] then (par n .neg ws.tail).andThen fun c r => ok (.not c) r else par n .basic ws
  | n+1, .basic, ws =>
    if (hd ws).is 1 [str "exists"] then (par n .sub ws.tail).andThen fun q r => ok (.exist q) r
    else if (hd ws).is 5 [str "("] then
      R.tried (par n .cond ws.tail) (par n .basicE ws) fun c r => if (hd r).is 5 [str ")"] then ok c r.tail else par n .basicE ws
    else par n .basicE ws
  | n+1, .basicE, ws => (par n .expr ws).andThen fun a r =>
    if (hd r).is 1 [str "is"] then
      let no := (hd r.tail).is 1 [str "not"]
      let r' := if no then r.tail.tail else r.tail
      if (hd r').is 1 [str "null"] then ok (.isnull a no) r'.tail else miss
    else if (hd r).is 1 [str "not", str "in"] then
      let no := (hd r).is 1 [str "not"]
      let r' := if no then r.tail else r
      if (hd r').is 1 [str "in"] then (par n .sub r'.tail).andThen fun q r => ok (.isin a no q) r else miss
    else if (hd r).is 5 cmps then
      if (hd r.tail).is 1 [str "any", str "all"] then
        (par n .sub r.tail.tail).andThen fun q r'' => ok (.quant (hd r).text (hd r.tail).text a q) r''
      else (par n .expr r.tail).andThen fun b r'' => ok (.cmp (hd r).text a b) r''
    else miss
  | n+1, .expr, ws => (par n .term ws).andThen fun e r => par n (.exprL e) r
  | n+1, .exprL e, ws =>
    if (hd ws).is 5 adds then (par n .term ws.tail).andThen fun b r => par n (.exprL (.bin (hd ws).text e b)) r else ok e ws
  | n+1, .term, ws => (par n .factor ws).andThen fun e r => par n (.termL e) r
  | n+1, .termL e, ws =>
    if (hd ws).is 5 muls then (par n .factor ws.tail).andThen fun b r => par n (.termL (.bin (hd ws).text e b)) r else ok e ws
  | n+1, .factor, ws =>
    if (hd ws).is 5 [str "-"] then (par n .factor ws.tail).andThen fun e r => ok (.neg e) r
    else if (hd ws).sort = 3 then ok (.num (hd ws).num) ws.tail
    else if (hd ws).sort = 4 then ok (.text (hd ws).text) ws.tail
    else if (hd ws).is 1 [str "null"] then ok .null ws.tail
    else if (hd ws).is 1 fns then
      if (hd ws.tail).is 5 [str "("] then
        if (hd ws).text = str "count" ∧ (hd ws.tail.tail).is 5 [str "*"] then
          if (hd ws.tail.tail.tail).is 5 [str ")"] then ok (.agg (hd ws).text .none) ws.tail.tail.tail.tail else miss
        else (par n .expr ws.tail.tail).andThen fun e r => if (hd r).is 5 [str ")"] then ok (.agg (hd ws).text e) r.tail else miss
      else miss
    else if (hd ws).is 5 [str "("] then
      (par n .expr ws.tail).andThen fun e r => if (hd r).is 5 [str ")"] then ok e r.tail else miss
    else par n .col ws

theorem andThen_some {x : R} {f : T → List W → R} {y : Option (T × List W)} (h : R.andThen x f = some y) :
    (x = some .none ∧ y = .none) ∨ ∃ t r, x = some (some (t, r)) ∧ f t r = some y := by
  match x, h with
  | some .none, h => exact .inl ⟨rfl, by simpa [R.andThen] using h.symm⟩
  | some (some (t, r)), h => exact .inr ⟨t, r, rfl, h⟩

theorem andThen_ok {x : R} {f : T → List W → R} {y : T × List W} (h : R.andThen x f = some (some y)) :
    ∃ t r, x = some (some (t, r)) ∧ f t r = some (some y) := by
  rcases andThen_some h with ⟨_, h⟩ | h
  · cases h
  · exact h

def Mono (x x' : R) : Prop := ∀ z, x = some z → x' = some z
theorem Mono.rfl' {x : R} : Mono x x := fun _ h => h
theorem Mono.andThen {x x' : R} {f f' : T → List W → R} (hx : Mono x x') (hf : ∀ t r, Mono (f t r) (f' t r)) : Mono (R.andThen x f) (R.andThen x' f') := by
  intro y h
  rcases andThen_some h with ⟨h1, rfl⟩ | ⟨t, r, h1, h2⟩
  · rw [hx _ h1]; rfl
  · rw [hx _ h1]; exact hf _ _ _ h2
theorem Mono.ite {c : Prop} [Decidable c] {x x' y y' : R} (h1 : Mono x x') (h2 : Mono y y') : Mono (if c then x else y) (if c then x' else y') := by
  split <;> assumption
theorem tried_some {x y : R} {f : T → List W → R} {z : Option (T × List W)} (h : R.tried x y f = some z) :
    (x = some .none ∧ y = some z) ∨ ∃ t r, x = some (some (t, r)) ∧ f t r = some z := by
  match x, h with
  | some .none, h => exact .inl ⟨rfl, h⟩
  | some (some (t, r)), h => exact .inr ⟨t, r, rfl, h⟩
theorem Mono.tried {x x' y y' : R} {f f' : T → List W → R} (hx : Mono x x') (hy : Mono y y') (hf : ∀ t r, Mono (f t r) (f' t r)) : Mono (R.tried x y f) (R.tried x' y' f') := by
  intro z h
  rcases tried_some h with ⟨h1, h2⟩ | ⟨t, r, h1, h2⟩
  · rw [hx _ h1]; exact hy _ h2
  · rw [hx _ h1]; exact hf _ _ _ h2

/-- More fuel changes no answer. -/
theorem par_mono : ∀ (n : Nat) (m : M) (ws : List W), Mono (par n m ws) (par (n+1) m ws)
  | 0, _, _ => fun _ h => by simp [par] at h
  | n+1, m, ws => by
    have ih := par_mono n
    cases m <;> simp only [par] <;>
      repeat (first | exact Mono.rfl' | exact ih _ _ | (refine Mono.andThen ?_ (fun _ _ => ?_)) | (refine Mono.ite ?_ ?_) | (refine Mono.tried ?_ ?_ (fun _ _ => ?_)))
theorem par_more {n n' : Nat} {m : M} {ws : List W} {y : Option (T × List W)} (hn : n ≤ n') (h : par n m ws = some y) : par n' m ws = some y := by
  induction hn with
  | refl => exact h
  | step _ ih => exact par_mono _ _ _ _ ih
inductive K where
  | query | core | tail | after | grouped | items | item | sources | source | cols | col | cond | conj | neg | basic | expr | term | factor

/-- What stretches of words are. -/
inductive G : K → List W → T → Prop
  | q1 {w t} : G .core w t → G .query w t
  | q2 {w v a b k} : G .query w a → k.is 1 setOps = true → G .core v b → G .query (w ++ k :: v) (.comb k.text false a b)
  | q3 {w v a b k l} : G .query w a → k.is 1 setOps = true → l.is 1 [str "all"] = true → G .core v b → G .query (w ++ k :: l :: v) (.comb k.text true a b)
  | c1 {w t o c} : o.is 5 [str "("] = true → G .query w t → c.is 5 [str ")"] = true → G .core (o :: (w ++ [c])) t
  | c2 {w v s fr it f wh g h} : s.is 1 [str "select"] = true → G .items w it → fr.is 1 [str "from"] = true → G .tail v (.sel false .none f wh g h) →
      G .core (s :: (w ++ fr :: v)) (.sel false it f wh g h)
  | c3 {w v s d fr it f wh g h} : s.is 1 [str "select"] = true → d.is 1 [str "distinct"] = true → G .items w it → fr.is 1 [str "from"] = true → G .tail v (.sel false .none f wh g h) →
      G .core (s :: d :: (w ++ fr :: v)) (.sel true it f wh g h)
  | c4 {v s st fr f wh g h} : s.is 1 [str "select"] = true → st.is 5 [str "*"] = true → fr.is 1 [str "from"] = true → G .tail v (.sel false .none f wh g h) →
      G .core (s :: st :: fr :: v) (.sel false .none f wh g h)
  | c5 {v s d st fr f wh g h} : s.is 1 [str "select"] = true → d.is 1 [str "distinct"] = true → st.is 5 [str "*"] = true → fr.is 1 [str "from"] = true → G .tail v (.sel false .none f wh g h) →
      G .core (s :: d :: st :: fr :: v) (.sel true .none f wh g h)
  | t1 {w f} : G .sources w f → G .tail w (.sel false .none f .none .none .none)
  | t2 {w v k f wh g h} : G .sources w f → k.is 1 [str "where"] = true → G .after v (.sel false .none .none wh g h) → G .tail (w ++ k :: v) (.sel false .none f wh g h)
  | t3 {w v k l f g h} : G .sources w f → k.is 1 [str "group"] = true → l.is 1 [str "by"] = true → G .grouped v (.sel false .none .none .none g h) →
      G .tail (w ++ k :: l :: v) (.sel false .none f .none g h)
  | a1 {w c} : G .cond w c → G .after w (.sel false .none .none c .none .none)
  | a2 {w v k l c g h} : G .cond w c → k.is 1 [str "group"] = true → l.is 1 [str "by"] = true → G .grouped v (.sel false .none .none .none g h) →
      G .after (w ++ k :: l :: v) (.sel false .none .none c g h)
  | g1 {w g} : G .cols w g → G .grouped w (.sel false .none .none .none g .none)
  | g2 {w v k g h} : G .cols w g → k.is 1 [str "having"] = true → G .cond v h → G .grouped (w ++ k :: v) (.sel false .none .none .none g h)
  | is1 {w x} : G .item w x → G .items w (.cons x .none)
  | is2 {w v k l x} : G .items w l → k.is 5 [str ","] = true → G .item v x → G .items (w ++ k :: v) (l.snoc x)
  | i1 {w e} : G .expr w e → G .item w (.item e [])
  | i2 {w e a n} : G .expr w e → a.is 1 [str "as"] = true → n.sort = 2 → G .item (w ++ [a, n]) (.item e n.text)
  | ss1 {w x} : G .source w x → G .sources w (.cons x .none)
  | ss2 {w v k l x} : G .sources w l → k.is 5 [str ","] = true → G .source v x → G .sources (w ++ k :: v) (l.snoc x)
  | s1 {n} : n.sort = 2 → G .source [n] (.src n.text [])
  | s2 {n a m} : n.sort = 2 → a.is 1 [str "as"] = true → m.sort = 2 → G .source [n, a, m] (.src n.text m.text)
  | cs1 {w x} : G .col w x → G .cols w (.cons x .none)
  | cs2 {w v k l x} : G .cols w l → k.is 5 [str ","] = true → G .col v x → G .cols (w ++ k :: v) (l.snoc x)
  | co1 {n} : n.sort = 2 → G .col [n] (.col [] n.text)
  | co2 {n d m} : n.sort = 2 → d.is 5 [str "."] = true → m.sort = 2 → G .col [n, d, m] (.col n.text m.text)
  | or1 {w t} : G .conj w t → G .cond w t
  | or2 {w v k a b} : G .cond w a → k.is 1 [str "or"] = true → G .conj v b → G .cond (w ++ k :: v) (.junct k.text a b)
  | and1 {w t} : G .neg w t → G .conj w t
  | and2 {w v k a b} : G .conj w a → k.is 1 [str "and"] = true → G .neg v b → G .conj (w ++ k :: v) (.junct k.text a b)
  | n1 {w t} : G .basic w t → G .neg w t
  | n2 {k w t} : k.is 1 [str "not"] = true → G .neg w t → G .neg (k :: w) (.not t)
  | b1 {k o w c t} : k.is 1 [str "exists"] = true → o.is 5 [str "("] = true → G .query w t → c.is 5 [str ")"] = true → G .basic (k :: o :: (w ++ [c])) (.exist t)
  | b2 {o w c t} : o.is 5 [str "("] = true → G .cond w t → c.is 5 [str ")"] = true → G .basic (o :: (w ++ [c])) t
  | b3 {w a i n} : G .expr w a → i.is 1 [str "is"] = true → n.is 1 [str "null"] = true → G .basic (w ++ [i, n]) (.isnull a false)
  | b4 {w a i k n} : G .expr w a → i.is 1 [str "is"] = true → k.is 1 [str "not"] = true → n.is 1 [str "null"] = true → G .basic (w ++ [i, k, n]) (.isnull a true)
  | b5 {w a i o v c q} : G .expr w a → i.is 1 [str "in"] = true → o.is 5 [str "("] = true → G .query v q → c.is 5 [str ")"] = true → G .basic (w ++ i :: o :: (v ++ [c])) (.isin a false q)
  | b6 {w a k i o v c q} : G .expr w a → k.is 1 [str "not"] = true → i.is 1 [str "in"] = true → o.is 5 [str "("] = true → G .query v q → c.is 5 [str ")"] = true →
      G .basic (w ++ k :: i :: o :: (v ++ [c])) (.isin a true q)
  | b7 {w a s h o v c q} : G .expr w a → s.is 5 cmps = true → h.is 1 [str "any", str "all"] = true → o.is 5 [str "("] = true → G .query v q → c.is 5 [str ")"] = true →
      G .basic (w ++ s :: h :: o :: (v ++ [c])) (.quant s.text h.text a q)
  | b8 {w a s v b} : G .expr w a → s.is 5 cmps = true → G .expr v b → G .basic (w ++ s :: v) (.cmp s.text a b)
  | e1 {w t} : G .term w t → G .expr w t
  | e2 {w v k a b} : G .expr w a → k.is 5 adds = true → G .term v b → G .expr (w ++ k :: v) (.bin k.text a b)
  | te1 {w t} : G .factor w t → G .term w t
  | te2 {w v k a b} : G .term w a → k.is 5 muls = true → G .factor v b → G .term (w ++ k :: v) (.bin k.text a b)
  | f1 {k w t} : k.is 5 [str "-"] = true → G .factor w t → G .factor (k :: w) (.neg t)
  | f2 {n} : n.sort = 3 → G .factor [n] (.num n.num)
  | f3 {n} : n.sort = 4 → G .factor [n] (.text n.text)
  | f4 {n} : n.is 1 [str "null"] = true → G .factor [n] .null
  | f5 {n o s c} : n.is 1 [str "count"] = true → o.is 5 [str "("] = true → s.is 5 [str "*"] = true → c.is 5 [str ")"] = true → G .factor [n, o, s, c] (.agg n.text .none)
  | f6 {n o w c e} : n.is 1 fns = true → o.is 5 [str "("] = true → G .expr w e → c.is 5 [str ")"] = true → G .factor (n :: o :: (w ++ [c])) (.agg n.text e)
  | f7 {o w c e} : o.is 5 [str "("] = true → G .expr w e → c.is 5 [str ")"] = true → G .factor (o :: (w ++ [c])) e
  | f8 {w t} : G .col w t → G .factor w t

/-! ### Words told apart -/
theorem is_sort {k : W} {s : Nat} {ts : List Str} (h : k.is s ts = true) : k.sort = s := by
  simp only [W.is, Bool.and_eq_true, beq_iff_eq] at h; exact h.1
theorem is_text {k : W} {s : Nat} {ts : List Str} (h : k.is s ts = true) : k.text ∈ ts := by
  simp only [W.is, Bool.and_eq_true] at h; simpa using h.2
/-- What is one of some is none of others. -/
theorem is_not {k : W} {s s' : Nat} {ts us : List Str} (h : k.is s ts = true) (hd : s ≠ s' ∨ ∀ t ∈ ts, t ∉ us) : k.is s' us = false := by
  rcases hd with hd | hd
  · simp [W.is, is_sort h, hd]
  · have := hd _ (is_text h)
    simp [W.is, this]
theorem is_sub {k : W} {s : Nat} {ts us : List Str} (h : k.is s ts = true) (hd : ∀ t ∈ ts, t ∈ us) : k.is s us = true := by
  have := hd _ (is_text h)
  simp [W.is, is_sort h, this]
theorem sort_not {k : W} {s s' : Nat} {us : List Str} (h : k.sort = s) (hd : s ≠ s') : k.is s' us = false := by
  simp [W.is, h, hd]
theorem is_one {k : W} {s : Nat} {t : Str} (h : k.is s [t] = true) : k.text = t := by simpa using is_text h

/-! ### What follows -/
def FFac (w : W) : Prop := w.is 5 [str "."] = false
def FTerm (w : W) : Prop := FFac w ∧ w.is 5 muls = false
def FExpr (w : W) : Prop := FTerm w ∧ w.is 5 adds = false
def FConj (w : W) : Prop := FExpr w ∧ w.is 1 [str "and"] = false
def FCond (w : W) : Prop := FConj w ∧ w.is 1 [str "or"] = false
def FItem (w : W) : Prop := FExpr w ∧ w.is 1 [str "as"] = false
def FCore (w : W) : Prop := FCond w ∧ w.is 1 [str "as"] = false ∧ w.is 5 [str ","] = false ∧ w.is 1 [str "where"] = false ∧ w.is 1 [str "group"] = false ∧ w.is 1 [str "having"] = false
def FQuery (w : W) : Prop := FCore w ∧ w.is 1 setOps = false
theorem hd_is {ws : List W} {s : Nat} {ts : List Str} (h : (hd ws).is s ts = true) (hs : s ≠ 0) : ∃ k r, ws = k :: r ∧ k.is s ts = true := by
  cases ws with
  | nil => exact absurd (is_sort h).symm (by simpa [hd, endW] using hs)
  | cons k r => exact ⟨k, r, rfl, h⟩
theorem hd_sort {ws : List W} {s : Nat} (h : (hd ws).sort = s) (hs : s ≠ 0) : ∃ k r, ws = k :: r ∧ k.sort = s := by
  cases ws with
  | nil => exact absurd h.symm (by simpa [hd, endW] using hs)
  | cons k r => exact ⟨k, r, rfl, h⟩
@[simp] theorem hd_cons (k : W) (r : List W) : hd (k :: r) = k := rfl

/-- What each way of the reader makes of the words that it takes. -/
def GM : M → List W → T → Prop
  | .query, p, t => G .query p t
  | .queryL q, p, t => ∀ w, G .query w q → G .query (w ++ p) t
  | .core, p, t => G .core p t
  | .sub, p, t => ∃ o w c, p = o :: (w ++ [c]) ∧ o.is 5 [str "("] = true ∧ c.is 5 [str ")"] = true ∧ G .query w t
  | .tail d it, p, t => ∃ fr v f wh g h, p = fr :: v ∧ fr.is 1 [str "from"] = true ∧ G .tail v (.sel false .none f wh g h) ∧ t = .sel d it f wh g h
  | .after d it f w, p, t => ∃ g h, t = .sel d it f w g h ∧ ((p = [] ∧ g = .none ∧ h = .none) ∨
      ∃ k l v, p = k :: l :: v ∧ k.is 1 [str "group"] = true ∧ l.is 1 [str "by"] = true ∧ G .grouped v (.sel false .none .none .none g h))
  | .items, p, t => G .items p t
  | .itemsL l, p, t => ∀ w, G .items w l → G .items (w ++ p) t
  | .item, p, t => G .item p t
  | .sources, p, t => G .sources p t
  | .sourcesL l, p, t => ∀ w, G .sources w l → G .sources (w ++ p) t
  | .source, p, t => G .source p t
  | .cols, p, t => G .cols p t
  | .colsL l, p, t => ∀ w, G .cols w l → G .cols (w ++ p) t
  | .col, p, t => G .col p t
  | .cond, p, t => G .cond p t
  | .condL c, p, t => ∀ w, G .cond w c → G .cond (w ++ p) t
  | .conj, p, t => G .conj p t
  | .conjL c, p, t => ∀ w, G .conj w c → G .conj (w ++ p) t
  | .neg, p, t => G .neg p t
  | .basic, p, t => G .basic p t
  | .basicE, p, t => G .basic p t
  | .expr, p, t => G .expr p t
  | .exprL e, p, t => ∀ w, G .expr w e → G .expr (w ++ p) t
  | .term, p, t => G .term p t
  | .termL e, p, t => ∀ w, G .term w e → G .term (w ++ p) t
  | .factor, p, t => G .factor p t

theorem ok_inj {t t' : T} {r r' : List W} (h : ok t r = some (some (t', r'))) : t = t' ∧ r = r' := by
  simpa [ok] using h

theorem ite_or {c : Prop} [Decidable c] {α : Type} {x y z : α} (h : (if c then x else y) = z) : (c ∧ x = z) ∨ (¬ c ∧ y = z) := by
  by_cases hc : c
  · rw [if_pos hc] at h; exact .inl ⟨hc, h⟩
  · rw [if_neg hc] at h; exact .inr ⟨hc, h⟩

theorem asOf_sound {e : Str → T} {ws : List W} {t : T} {r : List W} (h : asOf e ws = some (some (t, r))) :
    (ws = r ∧ t = e []) ∨ ∃ a n, ws = a :: n :: r ∧ a.is 1 [str "as"] = true ∧ n.sort = 2 ∧ t = e n.text := by
  unfold asOf at h
  rcases ite_or h with ⟨c, h⟩ | ⟨c, h⟩
  · obtain ⟨a, r1, rfl, ha⟩ := hd_is c (by decide)
    simp only [List.tail_cons] at h
    rcases ite_or h with ⟨c, h⟩ | ⟨c, h⟩
    · obtain ⟨n, r2, rfl, hn⟩ := hd_sort c (by decide)
      obtain ⟨rfl, rfl⟩ := ok_inj h
      exact .inr ⟨a, n, rfl, ha, hn, rfl⟩
    · cases h
  · obtain ⟨rfl, rfl⟩ := ok_inj h
    exact .inl ⟨rfl, rfl⟩

/-- A chain: the next part and the rest of it. -/
theorem chain_sound {n : Nat} {kk : K} {mp : M} {mL : T → M} {kp : K} {s : Nat} {ts : List Str} {x : T} {join : Str → T → T → T} {ws : List W} {t : T} {r : List W}
    (ih : ∀ m ws t r, par n m ws = some (some (t, r)) → ∃ pre, ws = pre ++ r ∧ GM m pre t)
    (hs : s ≠ 0) (hp : ∀ p t, GM mp p t → G kp p t) (hL : ∀ x p t, GM (mL x) p t → ∀ w, G kk w x → G kk (w ++ p) t)
    (hj : ∀ w v k a b, G kk w a → k.is s ts = true → G kp v b → G kk (w ++ k :: v) (join k.text a b))
    (h : (if (hd ws).is s ts = true then R.andThen (par n mp ws.tail) fun b r => par n (mL (join (hd ws).text x b)) r else ok x ws) = some (some (t, r))) :
    ∃ pre, ws = pre ++ r ∧ ∀ w, G kk w x → G kk (w ++ pre) t := by
  rcases ite_or h with ⟨c, h⟩ | ⟨c, h⟩
  · obtain ⟨k, r1, rfl, hk⟩ := hd_is c hs
    obtain ⟨b, r2, h1, h2⟩ := andThen_ok h
    obtain ⟨p1, e1, g1⟩ := ih _ _ _ _ h1
    obtain ⟨p2, e2, g2⟩ := ih _ _ _ _ h2
    refine ⟨k :: (p1 ++ p2), by simp only [List.tail_cons] at e1; simp [e1, e2], fun w hw => ?_⟩
    have := hL _ _ _ g2 _ (hj w p1 k x b hw hk (hp _ _ g1))
    simpa using this
  · obtain ⟨rfl, rfl⟩ := ok_inj h
    exact ⟨[], rfl, fun w hw => by simpa using hw⟩

theorem chain0_sound {n : Nat} {kk : K} {mp : M} {mL : T → M} {kp : K} {ws : List W} {t : T} {r : List W}
    (f : T → T) (ih : ∀ m ws t r, par n m ws = some (some (t, r)) → ∃ pre, ws = pre ++ r ∧ GM m pre t)
    (hp : ∀ p t, GM mp p t → G kp p t) (hL : ∀ x p t, GM (mL x) p t → ∀ w, G kk w x → G kk (w ++ p) t)
    (h1 : ∀ w x, G kp w x → G kk w (f x))
    (h : (R.andThen (par n mp ws) fun b r => par n (mL (f b)) r) = some (some (t, r))) :
    ∃ pre, ws = pre ++ r ∧ G kk pre t := by
  obtain ⟨b, r2, h2, h3⟩ := andThen_ok h
  obtain ⟨p1, e1, g1⟩ := ih _ _ _ _ h2
  obtain ⟨p2, e2, g2⟩ := ih _ _ _ _ h3
  exact ⟨p1 ++ p2, by simp [e1, e2], hL _ _ _ g2 _ (h1 _ _ (hp _ _ g1))⟩

theorem sound : ∀ (n : Nat) (m : M) (ws : List W) (t : T) (r : List W), par n m ws = some (some (t, r)) → ∃ pre, ws = pre ++ r ∧ GM m pre t
  | 0, _, _, _, _, h => by simp [par] at h
  | n+1, m, ws, t, r, h => by
    have ih := sound n
    cases m <;> simp only [par] at h
    case query => exact chain0_sound (mL := .queryL) (mp := .core) (kp := .core) (kk := .query) id ih (fun _ _ h => h) (fun _ _ _ h => h) (fun _ _ h => .q1 h) h
    case items => exact chain0_sound (mL := .itemsL) (mp := .item) (kp := .item) (kk := .items) (fun x => .cons x .none) ih (fun _ _ h => h) (fun _ _ _ h => h) (fun _ _ h => .is1 h) h
    case sources => exact chain0_sound (mL := .sourcesL) (mp := .source) (kp := .source) (kk := .sources) (fun x => .cons x .none) ih (fun _ _ h => h) (fun _ _ _ h => h) (fun _ _ h => .ss1 h) h
    case cols => exact chain0_sound (mL := .colsL) (mp := .col) (kp := .col) (kk := .cols) (fun x => .cons x .none) ih (fun _ _ h => h) (fun _ _ _ h => h) (fun _ _ h => .cs1 h) h
    case cond => exact chain0_sound (mL := .condL) (mp := .conj) (kp := .conj) (kk := .cond) id ih (fun _ _ h => h) (fun _ _ _ h => h) (fun _ _ h => .or1 h) h
    case conj => exact chain0_sound (mL := .conjL) (mp := .neg) (kp := .neg) (kk := .conj) id ih (fun _ _ h => h) (fun _ _ _ h => h) (fun _ _ h => .and1 h) h
    case expr => exact chain0_sound (mL := .exprL) (mp := .term) (kp := .term) (kk := .expr) id ih (fun _ _ h => h) (fun _ _ _ h => h) (fun _ _ h => .e1 h) h
    case term => exact chain0_sound (mL := .termL) (mp := .factor) (kp := .factor) (kk := .term) id ih (fun _ _ h => h) (fun _ _ _ h => h) (fun _ _ h => .te1 h) h
    case itemsL l => exact chain_sound (mL := .itemsL) (kp := .item) (kk := .items) (mp := .item) (join := fun _ a b => a.snoc b) ih (by decide) (fun _ _ h => h) (fun _ _ _ h => h) (fun _ _ _ _ _ h1 h2 h3 => .is2 h1 h2 h3) h
    case sourcesL l => exact chain_sound (mL := .sourcesL) (kp := .source) (kk := .sources) (mp := .source) (join := fun _ a b => a.snoc b) ih (by decide) (fun _ _ h => h) (fun _ _ _ h => h) (fun _ _ _ _ _ h1 h2 h3 => .ss2 h1 h2 h3) h
    case colsL l => exact chain_sound (mL := .colsL) (kp := .col) (kk := .cols) (mp := .col) (join := fun _ a b => a.snoc b) ih (by decide) (fun _ _ h => h) (fun _ _ _ h => h) (fun _ _ _ _ _ h1 h2 h3 => .cs2 h1 h2 h3) h
    case condL l => exact chain_sound (mL := .condL) (kp := .conj) (kk := .cond) (mp := .conj) (join := .junct) ih (by decide) (fun _ _ h => h) (fun _ _ _ h => h) (fun _ _ _ _ _ h1 h2 h3 => .or2 h1 h2 h3) h
    case conjL l => exact chain_sound (mL := .conjL) (kp := .neg) (kk := .conj) (mp := .neg) (join := .junct) ih (by decide) (fun _ _ h => h) (fun _ _ _ h => h) (fun _ _ _ _ _ h1 h2 h3 => .and2 h1 h2 h3) h
    case exprL l => exact chain_sound (mL := .exprL) (kp := .term) (kk := .expr) (mp := .term) (join := .bin) ih (by decide) (fun _ _ h => h) (fun _ _ _ h => h) (fun _ _ _ _ _ h1 h2 h3 => .e2 h1 h2 h3) h
    case termL l => exact chain_sound (mL := .termL) (kp := .factor) (kk := .term) (mp := .factor) (join := .bin) ih (by decide) (fun _ _ h => h) (fun _ _ _ h => h) (fun _ _ _ _ _ h1 h2 h3 => .te2 h1 h2 h3) h
    case queryL q =>
      rcases ite_or h with ⟨c, h⟩ | ⟨c, h⟩
      · obtain ⟨k, r1, rfl, hk⟩ := hd_is c (by decide)
        simp only [List.tail_cons, hd_cons] at h
        rcases ite_or h with ⟨c, h⟩ | ⟨c, h⟩
        · obtain ⟨l, r1', rfl, hl⟩ := hd_is c (by decide)
          simp only [List.tail_cons] at h
          obtain ⟨b, r2, h1, h2⟩ := andThen_ok h
          obtain ⟨p1, rfl, g1⟩ := ih _ _ _ _ h1
          obtain ⟨p2, rfl, g2⟩ := ih _ _ _ _ h2
          exact ⟨k :: l :: (p1 ++ p2), by simp, fun w hw => by simpa using g2 _ (.q3 hw hk hl g1)⟩
        · obtain ⟨b, r2, h1, h2⟩ := andThen_ok h
          obtain ⟨p1, rfl, g1⟩ := ih _ _ _ _ h1
          obtain ⟨p2, rfl, g2⟩ := ih _ _ _ _ h2
          exact ⟨k :: (p1 ++ p2), by simp, fun w hw => by simpa using g2 _ (.q2 hw hk g1)⟩
      · obtain ⟨rfl, rfl⟩ := ok_inj h
        exact ⟨[], rfl, fun w hw => by simpa using hw⟩
    case sub =>
      rcases ite_or h with ⟨c, h⟩ | ⟨c, h⟩
      · obtain ⟨k, r1, rfl, hk⟩ := hd_is c (by decide)
        obtain ⟨q, r2, h1, h2⟩ := andThen_ok h
        obtain ⟨p1, e1, g1⟩ := ih _ _ _ _ h1
        simp only [List.tail_cons] at e1
        subst e1
        rcases ite_or h2 with ⟨c, h2⟩ | ⟨c, h2⟩
        · obtain ⟨l, r3, rfl, hl⟩ := hd_is c (by decide)
          obtain ⟨rfl, rfl⟩ := ok_inj h2
          exact ⟨k :: (p1 ++ [l]), by simp, k, p1, l, rfl, hk, hl, g1⟩
        · cases h2
      · cases h
    case core =>
      rcases ite_or h with ⟨c, h⟩ | ⟨c, h⟩
      · obtain ⟨p, e, o, w, cl, rfl, ho, hc, g⟩ := ih _ _ _ _ h
        exact ⟨_, e, .c1 ho g hc⟩
      · rcases ite_or h with ⟨c, h⟩ | ⟨c, h⟩
        · obtain ⟨k, r1, rfl, hk⟩ := hd_is c (by decide)
          simp only [List.tail_cons] at h
          cases hd' : (hd r1).is 1 [str "distinct"] <;> simp only [hd', if_true, if_false, Bool.false_eq_true] at h
          · rcases ite_or h with ⟨c, h⟩ | ⟨c, h⟩
            · obtain ⟨st, r2, rfl, hst⟩ := hd_is c (by decide)
              obtain ⟨p, e, fr, v, f, wh, g, hh, rfl, hfr, gt, rfl⟩ := ih _ _ _ _ h
              simp only [List.tail_cons] at e
              subst e
              exact ⟨k :: st :: fr :: v, by simp, .c4 hk hst hfr gt⟩
            · obtain ⟨it, r2, h1, h2⟩ := andThen_ok h
              obtain ⟨p1, rfl, g1⟩ := ih _ _ _ _ h1
              obtain ⟨p, e, fr, v, f, wh, g, hh, rfl, hfr, gt, rfl⟩ := ih _ _ _ _ h2
              subst e
              exact ⟨k :: (p1 ++ fr :: v), by simp, .c2 hk g1 hfr gt⟩
          · obtain ⟨d, r2, rfl, hdd⟩ := hd_is hd' (by decide)
            simp only [List.tail_cons] at h
            rcases ite_or h with ⟨c, h⟩ | ⟨c, h⟩
            · obtain ⟨st, r2, rfl, hst⟩ := hd_is c (by decide)
              obtain ⟨p, e, fr, v, f, wh, g, hh, rfl, hfr, gt, rfl⟩ := ih _ _ _ _ h
              simp only [List.tail_cons] at e
              subst e
              exact ⟨k :: d :: st :: fr :: v, by simp, .c5 hk hdd hst hfr gt⟩
            · obtain ⟨it, r2, h1, h2⟩ := andThen_ok h
              obtain ⟨p1, rfl, g1⟩ := ih _ _ _ _ h1
              obtain ⟨p, e, fr, v, f, wh, g, hh, rfl, hfr, gt, rfl⟩ := ih _ _ _ _ h2
              subst e
              exact ⟨k :: d :: (p1 ++ fr :: v), by simp, .c3 hk hdd g1 hfr gt⟩
        · cases h
    case tail d it =>
      rcases ite_or h with ⟨c, h⟩ | ⟨c, h⟩
      · obtain ⟨fr, r1, rfl, hfr⟩ := hd_is c (by decide)
        obtain ⟨f, r2, h1, h2⟩ := andThen_ok h
        obtain ⟨p1, e1, g1⟩ := ih _ _ _ _ h1
        simp only [List.tail_cons] at e1
        subst e1
        rcases ite_or h2 with ⟨c, h2⟩ | ⟨c, h2⟩
        · obtain ⟨k, r3, rfl, hk⟩ := hd_is c (by decide)
          obtain ⟨w, r4, h3, h4⟩ := andThen_ok h2
          obtain ⟨p2, e2, g2⟩ := ih _ _ _ _ h3
          simp only [List.tail_cons] at e2
          subst e2
          obtain ⟨p3, rfl, g, hh, rfl, hx⟩ := ih _ _ _ _ h4
          rcases hx with ⟨rfl, rfl, rfl⟩ | ⟨k', l', v, rfl, hk', hl', gg⟩
          · exact ⟨fr :: (p1 ++ k :: p2), by simp, fr, _, f, w, _, _, rfl, hfr, .t2 g1 hk (.a1 g2), rfl⟩
          · exact ⟨fr :: (p1 ++ k :: (p2 ++ k' :: l' :: v)), by simp, fr, _, f, w, _, _, rfl, hfr, .t2 g1 hk (.a2 g2 hk' hl' gg), rfl⟩
        · obtain ⟨p3, rfl, g, hh, rfl, hx⟩ := ih _ _ _ _ h2
          rcases hx with ⟨rfl, rfl, rfl⟩ | ⟨k', l', v, rfl, hk', hl', gg⟩
          · exact ⟨fr :: p1, by simp, fr, _, f, _, _, _, rfl, hfr, .t1 g1, rfl⟩
          · exact ⟨fr :: (p1 ++ k' :: l' :: v), by simp, fr, _, f, _, _, _, rfl, hfr, .t3 g1 hk' hl' gg, rfl⟩
      · cases h
    case after d it f w =>
      rcases ite_or h with ⟨c, h⟩ | ⟨c, h⟩
      · obtain ⟨k, r1, rfl, hk⟩ := hd_is c (by decide)
        simp only [List.tail_cons] at h
        rcases ite_or h with ⟨c, h⟩ | ⟨c, h⟩
        · obtain ⟨l, r2, rfl, hl⟩ := hd_is c (by decide)
          simp only [List.tail_cons] at h
          obtain ⟨g, r3, h1, h2⟩ := andThen_ok h
          obtain ⟨p1, rfl, g1⟩ := ih _ _ _ _ h1
          rcases ite_or h2 with ⟨c, h2⟩ | ⟨c, h2⟩
          · obtain ⟨hv, r4, rfl, hhv⟩ := hd_is c (by decide)
            obtain ⟨hc, r5, h3, h4⟩ := andThen_ok h2
            obtain ⟨p2, e2, g2⟩ := ih _ _ _ _ h3
            simp only [List.tail_cons] at e2
            subst e2
            obtain ⟨rfl, rfl⟩ := ok_inj h4
            exact ⟨k :: l :: (p1 ++ hv :: p2), by simp, g, hc, rfl, .inr ⟨k, l, _, rfl, hk, hl, .g2 g1 hhv g2⟩⟩
          · obtain ⟨rfl, rfl⟩ := ok_inj h2
            exact ⟨k :: l :: p1, by simp, g, _, rfl, .inr ⟨k, l, _, rfl, hk, hl, .g1 g1⟩⟩
        · cases h
      · obtain ⟨rfl, rfl⟩ := ok_inj h
        exact ⟨[], rfl, _, _, rfl, .inl ⟨rfl, rfl, rfl⟩⟩
    case item =>
      obtain ⟨e, r2, h1, h2⟩ := andThen_ok h
      obtain ⟨p1, rfl, g1⟩ := ih _ _ _ _ h1
      rcases asOf_sound h2 with ⟨rfl, rfl⟩ | ⟨a, n, rfl, ha, hn, rfl⟩
      · exact ⟨p1, rfl, .i1 g1⟩
      · exact ⟨p1 ++ [a, n], by simp, .i2 g1 ha hn⟩
    case source =>
      rcases ite_or h with ⟨c, h⟩ | ⟨c, h⟩
      · obtain ⟨k, r1, rfl, hk⟩ := hd_sort c (by decide)
        simp only [List.tail_cons, hd_cons] at h
        rcases asOf_sound h with ⟨rfl, rfl⟩ | ⟨a, n, rfl, ha, hn, rfl⟩
        · exact ⟨[k], rfl, .s1 hk⟩
        · exact ⟨[k, a, n], rfl, .s2 hk ha hn⟩
      · cases h
    case col =>
      rcases ite_or h with ⟨c, h⟩ | ⟨c, h⟩
      · obtain ⟨k, r1, rfl, hk⟩ := hd_sort c (by decide)
        simp only [List.tail_cons, hd_cons] at h
        rcases ite_or h with ⟨c, h⟩ | ⟨c, h⟩
        · obtain ⟨d, r2, rfl, hdd⟩ := hd_is c (by decide)
          simp only [List.tail_cons] at h
          rcases ite_or h with ⟨c, h⟩ | ⟨c, h⟩
          · obtain ⟨m, r3, rfl, hm⟩ := hd_sort c (by decide)
            obtain ⟨rfl, rfl⟩ := ok_inj h
            exact ⟨[k, d, m], rfl, .co2 hk hdd hm⟩
          · cases h
        · obtain ⟨rfl, rfl⟩ := ok_inj h
          exact ⟨[k], rfl, .co1 hk⟩
      · cases h
    case neg =>
      rcases ite_or h with ⟨c, h⟩ | ⟨c, h⟩
      · obtain ⟨k, r1, rfl, hk⟩ := hd_is c (by decide)
        obtain ⟨e, r2, h1, h2⟩ := andThen_ok h
        obtain ⟨p1, e1, g1⟩ := ih _ _ _ _ h1
        simp only [List.tail_cons] at e1
        subst e1
        obtain ⟨rfl, rfl⟩ := ok_inj h2
        exact ⟨k :: p1, by simp, .n2 hk g1⟩
      · obtain ⟨p, e, g⟩ := ih _ _ _ _ h
        exact ⟨p, e, .n1 g⟩
    case basic =>
      rcases ite_or h with ⟨c, h⟩ | ⟨c, h⟩
      · obtain ⟨k, r1, rfl, hk⟩ := hd_is c (by decide)
        obtain ⟨e, r2, h1, h2⟩ := andThen_ok h
        obtain ⟨p1, e1, o, w, cl, rfl, ho, hc, g⟩ := ih _ _ _ _ h1
        simp only [List.tail_cons] at e1
        subst e1
        obtain ⟨rfl, rfl⟩ := ok_inj h2
        exact ⟨k :: o :: (w ++ [cl]), by simp, .b1 hk ho g hc⟩
      · rcases ite_or h with ⟨c, h⟩ | ⟨c, h⟩
        · obtain ⟨k, r1, rfl, hk⟩ := hd_is c (by decide)
          rcases tried_some h with ⟨_, h⟩ | ⟨e, r2, h1, h2⟩
          · exact ih .basicE _ _ _ h
          · rcases ite_or h2 with ⟨c, h3⟩ | ⟨c, h3⟩
            · obtain ⟨l, r3, rfl, hl⟩ := hd_is c (by decide)
              obtain ⟨p1, e1, g1⟩ := ih _ _ _ _ h1
              simp only [List.tail_cons] at e1
              subst e1
              obtain ⟨rfl, rfl⟩ := ok_inj h3
              exact ⟨k :: (p1 ++ [l]), by simp, .b2 hk g1 hl⟩
            · exact ih .basicE _ _ _ h3
        · exact ih .basicE _ _ _ h
    case basicE =>
      obtain ⟨a, r2, h1, h2⟩ := andThen_ok h
      obtain ⟨p1, rfl, g1⟩ := ih _ _ _ _ h1
      rcases ite_or h2 with ⟨c, h2⟩ | ⟨c, h2⟩
      · obtain ⟨i, r3, rfl, hi⟩ := hd_is c (by decide)
        simp only [List.tail_cons] at h2
        cases hd' : (hd r3).is 1 [str "not"] <;> simp only [hd', if_true, if_false, Bool.false_eq_true] at h2
        · rcases ite_or h2 with ⟨c, h2⟩ | ⟨c, h2⟩
          · obtain ⟨nn, r4, rfl, hn⟩ := hd_is c (by decide)
            obtain ⟨rfl, rfl⟩ := ok_inj h2
            exact ⟨p1 ++ [i, nn], by simp, .b3 g1 hi hn⟩
          · cases h2
        · obtain ⟨k, r4, rfl, hk⟩ := hd_is hd' (by decide)
          simp only [List.tail_cons] at h2
          rcases ite_or h2 with ⟨c, h2⟩ | ⟨c, h2⟩
          · obtain ⟨nn, r4, rfl, hn⟩ := hd_is c (by decide)
            obtain ⟨rfl, rfl⟩ := ok_inj h2
            exact ⟨p1 ++ [i, k, nn], by simp, .b4 g1 hi hk hn⟩
          · cases h2
      · rcases ite_or h2 with ⟨c, h2⟩ | ⟨c, h2⟩
        · cases hd' : (hd r2).is 1 [str "not"] <;> simp only [hd', if_true, if_false, Bool.false_eq_true] at h2
          · rcases ite_or h2 with ⟨c, h2⟩ | ⟨c, h2⟩
            · obtain ⟨i, r4, rfl, hi⟩ := hd_is c (by decide)
              obtain ⟨q, r5, h3, h4⟩ := andThen_ok h2
              obtain ⟨p2, e1, o, w, cl, rfl, ho, hc, g⟩ := ih _ _ _ _ h3
              simp only [List.tail_cons] at e1
              subst e1
              obtain ⟨rfl, rfl⟩ := ok_inj h4
              exact ⟨p1 ++ i :: o :: (w ++ [cl]), by simp, .b5 g1 hi ho g hc⟩
            · cases h2
          · obtain ⟨k, r4, rfl, hk⟩ := hd_is hd' (by decide)
            simp only [List.tail_cons] at h2
            rcases ite_or h2 with ⟨c, h2⟩ | ⟨c, h2⟩
            · obtain ⟨i, r4, rfl, hi⟩ := hd_is c (by decide)
              obtain ⟨q, r5, h3, h4⟩ := andThen_ok h2
              obtain ⟨p2, e1, o, w, cl, rfl, ho, hc, g⟩ := ih _ _ _ _ h3
              simp only [List.tail_cons] at e1
              subst e1
              obtain ⟨rfl, rfl⟩ := ok_inj h4
              exact ⟨p1 ++ k :: i :: o :: (w ++ [cl]), by simp, .b6 g1 hk hi ho g hc⟩
            · cases h2
        · rcases ite_or h2 with ⟨c, h2⟩ | ⟨c, h2⟩
          · obtain ⟨s, r3, rfl, hs⟩ := hd_is c (by decide)
            simp only [List.tail_cons, hd_cons] at h2
            rcases ite_or h2 with ⟨c, h2⟩ | ⟨c, h2⟩
            · obtain ⟨hh, r4, rfl, hhh⟩ := hd_is c (by decide)
              simp only [List.tail_cons, hd_cons] at h2
              obtain ⟨q, r5, h3, h4⟩ := andThen_ok h2
              obtain ⟨p2, rfl, o, w, cl, rfl, ho, hc, g⟩ := ih _ _ _ _ h3
              obtain ⟨rfl, rfl⟩ := ok_inj h4
              exact ⟨p1 ++ s :: hh :: o :: (w ++ [cl]), by simp, .b7 g1 hs hhh ho g hc⟩
            · obtain ⟨b, r5, h3, h4⟩ := andThen_ok h2
              obtain ⟨p2, rfl, g2⟩ := ih _ _ _ _ h3
              obtain ⟨rfl, rfl⟩ := ok_inj h4
              exact ⟨p1 ++ s :: p2, by simp, .b8 g1 hs g2⟩
          · cases h2
    case factor =>
      rcases ite_or h with ⟨c, h⟩ | ⟨c, h⟩
      · obtain ⟨k, r1, rfl, hk⟩ := hd_is c (by decide)
        obtain ⟨e, r2, h1, h2⟩ := andThen_ok h
        obtain ⟨p1, e1, g1⟩ := ih _ _ _ _ h1
        simp only [List.tail_cons] at e1
        subst e1
        obtain ⟨rfl, rfl⟩ := ok_inj h2
        exact ⟨k :: p1, by simp, .f1 hk g1⟩
      · rcases ite_or h with ⟨c, h⟩ | ⟨c, h⟩
        · obtain ⟨k, r1, rfl, hk⟩ := hd_sort c (by decide)
          obtain ⟨rfl, rfl⟩ := ok_inj h
          exact ⟨[k], rfl, .f2 hk⟩
        · rcases ite_or h with ⟨c, h⟩ | ⟨c, h⟩
          · obtain ⟨k, r1, rfl, hk⟩ := hd_sort c (by decide)
            obtain ⟨rfl, rfl⟩ := ok_inj h
            exact ⟨[k], rfl, .f3 hk⟩
          · rcases ite_or h with ⟨c, h⟩ | ⟨c, h⟩
            · obtain ⟨k, r1, rfl, hk⟩ := hd_is c (by decide)
              obtain ⟨rfl, rfl⟩ := ok_inj h
              exact ⟨[k], rfl, .f4 hk⟩
            · rcases ite_or h with ⟨c, h⟩ | ⟨c, h⟩
              · obtain ⟨k, r1, rfl, hk⟩ := hd_is c (by decide)
                simp only [List.tail_cons, hd_cons] at h
                rcases ite_or h with ⟨c, h⟩ | ⟨c, h⟩
                · obtain ⟨o, r2, rfl, ho⟩ := hd_is c (by decide)
                  simp only [List.tail_cons] at h
                  rcases ite_or h with ⟨c, h⟩ | ⟨c, h⟩
                  · obtain ⟨s, r3, rfl, hs⟩ := hd_is c.2 (by decide)
                    have hk' : k.is 1 [str "count"] = true := by simp [W.is, is_sort hk, c.1]
                    simp only [List.tail_cons] at h
                    rcases ite_or h with ⟨c, h⟩ | ⟨c, h⟩
                    · obtain ⟨cc, r4, rfl, hcc⟩ := hd_is c (by decide)
                      obtain ⟨rfl, rfl⟩ := ok_inj h
                      exact ⟨[k, o, s, cc], rfl, .f5 hk' ho hs hcc⟩
                    · cases h
                  · obtain ⟨e, r4, h1, h2⟩ := andThen_ok h
                    obtain ⟨p1, rfl, g1⟩ := ih _ _ _ _ h1
                    rcases ite_or h2 with ⟨c, h2⟩ | ⟨c, h2⟩
                    · obtain ⟨cc, r4, rfl, hcc⟩ := hd_is c (by decide)
                      obtain ⟨rfl, rfl⟩ := ok_inj h2
                      exact ⟨k :: o :: (p1 ++ [cc]), by simp, .f6 hk ho g1 hcc⟩
                    · cases h2
                · cases h
              · rcases ite_or h with ⟨c, h⟩ | ⟨c, h⟩
                · obtain ⟨o, r2, rfl, ho⟩ := hd_is c (by decide)
                  obtain ⟨e, r4, h1, h2⟩ := andThen_ok h
                  obtain ⟨p1, e1, g1⟩ := ih _ _ _ _ h1
                  simp only [List.tail_cons] at e1
                  subst e1
                  rcases ite_or h2 with ⟨c, h2⟩ | ⟨c, h2⟩
                  · obtain ⟨cc, r4, rfl, hcc⟩ := hd_is c (by decide)
                    obtain ⟨rfl, rfl⟩ := ok_inj h2
                    exact ⟨o :: (p1 ++ [cc]), by simp, .f7 ho g1 hcc⟩
                  · cases h2
                · obtain ⟨p, e, g⟩ := ih _ _ _ _ h
                  exact ⟨p, e, .f8 g⟩
/-- What the reader answers in the end. -/
def P (m : M) (ws : List W) (y : Option (T × List W)) : Prop := ∃ N, ∀ n, N ≤ n → par n m ws = some y
theorem P.of {n : Nat} {m : M} {ws : List W} {y : Option (T × List W)} (h : par n m ws = some y) : P m ws y := ⟨n, fun _ hn => par_more hn h⟩
theorem P.uniq {m : M} {ws : List W} {y y' : Option (T × List W)} (h : P m ws y) (h' : P m ws y') : y = y' := by
  obtain ⟨N, h⟩ := h
  obtain ⟨N', h'⟩ := h'
  have := (h (N + N') (by omega)).symm.trans (h' (N + N') (by omega))
  simpa using this
theorem P.sound {m : M} {ws : List W} {t : T} {r : List W} (h : P m ws (some (t, r))) : ∃ pre, ws = pre ++ r ∧ GM m pre t :=
  let ⟨N, h⟩ := h; Bags.sound _ _ _ _ _ (h N (Nat.le_refl _))
theorem P.len {m : M} {ws : List W} {t : T} {r : List W} (h : P m ws (some (t, r))) : r.length ≤ ws.length := by
  obtain ⟨pre, rfl, _⟩ := h.sound
  simp

/-- In the end. -/
def Lim (X : Nat → R) (y : Option (T × List W)) : Prop := ∃ N, ∀ n, N ≤ n → X n = some y
theorem Lim.const (y : Option (T × List W)) : Lim (fun _ => some y) y := ⟨0, fun _ _ => rfl⟩
theorem Lim.andThen {X : Nat → R} {f : Nat → T → List W → R} {x : Option (T × List W)} (h : Lim X x)
    (hf : ∀ t r, x = some (t, r) → ∃ y, Lim (fun n => f n t r) y) : ∃ y, Lim (fun n => R.andThen (X n) (f n)) y := by
  obtain ⟨N, h⟩ := h
  cases x with
  | none => exact ⟨_, N, fun n hn => by show _ = _; dsimp only; rw [h n hn]; rfl⟩
  | some p =>
    obtain ⟨t, r⟩ := p
    obtain ⟨y, M, hy⟩ := hf t r rfl
    exact ⟨y, N + M, fun n hn => by show _ = _; dsimp only; rw [h n (by omega)]; exact hy n (by omega)⟩
theorem Lim.tried {X Y : Nat → R} {f : Nat → T → List W → R} {x : Option (T × List W)} (h : Lim X x) (hY : ∃ y, Lim Y y)
    (hf : ∀ t r, x = some (t, r) → ∃ y, Lim (fun n => f n t r) y) : ∃ y, Lim (fun n => R.tried (X n) (Y n) (f n)) y := by
  obtain ⟨N, h⟩ := h
  cases x with
  | none =>
    obtain ⟨y, M, hy⟩ := hY
    exact ⟨y, N + M, fun n hn => by show _ = _; dsimp only; rw [h n (by omega)]; exact hy n (by omega)⟩
  | some p =>
    obtain ⟨t, r⟩ := p
    obtain ⟨y, M, hy⟩ := hf t r rfl
    exact ⟨y, N + M, fun n hn => by show _ = _; dsimp only; rw [h n (by omega)]; exact hy n (by omega)⟩
theorem Lim.ite {c : Prop} [Decidable c] {X Y : Nat → R} (h1 : c → ∃ y, Lim X y) (h2 : ¬ c → ∃ y, Lim Y y) : ∃ y, Lim (fun n => if c then X n else Y n) y := by
  by_cases hc : c
  · obtain ⟨y, h⟩ := h1 hc
    exact ⟨y, by simpa only [if_pos hc] using h⟩
  · obtain ⟨y, h⟩ := h2 hc
    exact ⟨y, by simpa only [if_neg hc] using h⟩
theorem P.shift {m : M} {ws : List W} {X : Nat → R} (hX : ∀ n, par (n+1) m ws = X n) (h : ∃ y, Lim X y) : ∃ y, P m ws y := by
  obtain ⟨y, N, h⟩ := h
  refine ⟨y, N + 1, fun n hn => ?_⟩
  obtain ⟨k, rfl⟩ : ∃ k, n = k + 1 := ⟨n - 1, by omega⟩
  rw [hX]; exact h k (by omega)

def rank : M → Nat
  | .query => 2 | .core => 1 | .items => 5 | .item => 4 | .sources => 1 | .cols => 1
  | .cond => 8 | .conj => 7 | .neg => 6 | .basic => 5 | .basicE => 4 | .expr => 3 | .term => 2 | .factor => 1
  | _ => 0

theorem tail_lt {ws : List W} {s : Nat} {ts : List Str} (h : (hd ws).is s ts = true) (hs : s ≠ 0) : ws.tail.length < ws.length := by
  obtain ⟨k, r, rfl, _⟩ := hd_is h hs
  simp
theorem tail_le (ws : List W) : ws.tail.length ≤ ws.length := by simp
theorem asOf_lim (e : Str → T) (ws : List W) : ∃ y, Lim (fun _ => asOf e ws) y := by
  unfold asOf
  exact Lim.ite (fun _ => Lim.ite (fun _ => ⟨_, Lim.const _⟩) fun _ => ⟨_, Lim.const _⟩) fun _ => ⟨_, Lim.const _⟩

/-- The reader comes to an end at all words. -/
theorem total : ∀ (d : Nat) (m : M) (ws : List W), 9 * ws.length + rank m ≤ d → ∃ y, P m ws y
  | d, m, ws, hd' => by
    have ih : ∀ m' ws', 9 * ws'.length + rank m' < 9 * ws.length + rank m → ∃ y, P m' ws' y := fun m' ws' h =>
      total (9 * ws'.length + rank m') m' ws' (Nat.le_refl _)
    have step : ∀ {m' : M} {ws' : List W} {f : Nat → T → List W → R}, 9 * ws'.length + rank m' < 9 * ws.length + rank m →
        (∀ t r, r.length ≤ ws'.length → ∃ y, Lim (fun n => f n t r) y) → ∃ y, Lim (fun n => R.andThen (par n m' ws') (f n)) y := by
      intro m' ws' f h hf
      obtain ⟨y, hy⟩ := ih m' ws' h
      exact Lim.andThen (x := y) hy (fun t r e => hf t r (by subst e; exact P.len hy))
    have one : ∀ {m' : M} {ws' : List W}, 9 * ws'.length + rank m' < 9 * ws.length + rank m → ∃ y, Lim (fun n => par n m' ws') y := fun h => ih _ _ h
    have cst : ∀ (t : T) (r : List W), ∃ y, Lim (fun _ => ok t r) y := fun t r => ⟨_, Lim.const _⟩
    have mis : ∃ y, Lim (fun _ => miss) y := ⟨_, Lim.const _⟩
    cases m <;> refine P.shift (fun n => by rw [par]) ?_
    case query => exact step (by simp [rank]) fun t r hr => one (by simp only [rank]; omega)
    case queryL q =>
      refine Lim.ite (fun c => ?_) fun _ => cst _ _
      have h1 := tail_lt c (by decide)
      refine Lim.ite (fun c => ?_) fun _ => ?_
      · have h2 := tail_lt c (by decide)
        exact step (by simp only [rank]; omega) fun t r hr => one (by simp only [rank]; omega)
      · exact step (by simp only [rank]; omega) fun t r hr => one (by simp only [rank]; omega)
    case sub =>
      refine Lim.ite (fun c => ?_) fun _ => mis
      have h1 := tail_lt c (by decide)
      exact step (by simp only [rank]; omega) fun t r hr => Lim.ite (fun _ => cst _ _) fun _ => mis
    case core =>
      refine Lim.ite (fun c => one (by simp [rank])) fun _ => Lim.ite (fun c => ?_) fun _ => mis
      have h1 := tail_lt c (by decide)
      have h2 := tail_le ws.tail
      have h3 : (if (hd ws.tail).is 1 [str "distinct"] = true then ws.tail.tail else ws.tail).length ≤ ws.tail.length := by split <;> omega
      have h4 := tail_le (if (hd ws.tail).is 1 [str "distinct"] = true then ws.tail.tail else ws.tail)
      refine Lim.ite (fun c => one (by simp only [rank]; omega)) fun _ => ?_
      exact step (by simp only [rank]; omega) fun t r hr => one (by simp only [rank]; omega)
    case tail d it =>
      refine Lim.ite (fun c => ?_) fun _ => mis
      have h1 := tail_lt c (by decide)
      refine step (by simp only [rank]; omega) fun t r hr => ?_
      refine Lim.ite (fun c => ?_) fun _ => one (by simp only [rank]; omega)
      have h2 := tail_lt c (by decide)
      exact step (by simp only [rank]; omega) fun t r hr => one (by simp only [rank]; omega)
    case after d it f w =>
      refine Lim.ite (fun c => ?_) fun _ => cst _ _
      have h1 := tail_lt c (by decide)
      refine Lim.ite (fun c => ?_) fun _ => mis
      have h2 := tail_lt c (by decide)
      refine step (by simp only [rank]; omega) fun t r hr => ?_
      refine Lim.ite (fun c => ?_) fun _ => cst _ _
      have h2 := tail_lt c (by decide)
      exact step (by simp only [rank]; omega) fun t r hr => cst _ _
    case source => exact Lim.ite (fun _ => asOf_lim _ _) fun _ => mis
    case col => exact Lim.ite (fun _ => Lim.ite (fun _ => Lim.ite (fun _ => cst _ _) fun _ => mis) fun _ => cst _ _) fun _ => mis
    case item => exact step (by simp only [rank]; omega) fun t r hr => asOf_lim _ _
    case neg =>
      refine Lim.ite (fun c => ?_) fun _ => one (by simp only [rank]; omega)
      have h1 := tail_lt c (by decide)
      exact step (by simp only [rank]; omega) fun t r hr => cst _ _
    case basic =>
      refine Lim.ite (fun c => ?_) fun _ => Lim.ite (fun c => ?_) fun _ => one (by simp only [rank]; omega)
      · have h1 := tail_lt c (by decide)
        exact step (by simp only [rank]; omega) fun t r hr => cst _ _
      · have h1 := tail_lt c (by decide)
        obtain ⟨y, hy⟩ := ih .cond ws.tail (by simp only [rank]; omega)
        exact Lim.tried (x := y) hy (one (by simp only [rank]; omega)) fun t r e => Lim.ite (fun _ => cst _ _) fun _ => one (by simp only [rank]; omega)
    case basicE =>
      refine step (by simp only [rank]; omega) fun t r hr => ?_
      refine Lim.ite (fun c => Lim.ite (fun _ => cst _ _) fun _ => mis) fun _ => Lim.ite (fun c => ?_) fun _ => Lim.ite (fun c => ?_) fun _ => mis
      · have h1 := tail_lt c (by decide)
        have h3 : (if (hd r).is 1 [str "not"] = true then r.tail else r).length ≤ r.length := by split <;> omega
        refine Lim.ite (fun c => ?_) fun _ => mis
        have h2 := tail_lt c (by decide)
        exact step (by simp only [rank]; omega) fun t r hr => cst _ _
      · have h1 := tail_lt c (by decide)
        refine Lim.ite (fun c => ?_) fun _ => ?_
        · have h2 := tail_lt c (by decide)
          exact step (by simp only [rank]; omega) fun t r hr => cst _ _
        · exact step (by simp only [rank]; omega) fun t r hr => cst _ _
    case factor =>
      refine Lim.ite (fun c => ?_) fun _ => Lim.ite (fun _ => cst _ _) fun _ => Lim.ite (fun _ => cst _ _) fun _ => Lim.ite (fun _ => cst _ _) fun _ =>
        Lim.ite (fun c => ?_) fun _ => Lim.ite (fun c => ?_) fun _ => one (by simp only [rank]; omega)
      · have h1 := tail_lt c (by decide)
        exact step (by simp only [rank]; omega) fun t r hr => cst _ _
      · have h1 := tail_lt c (by decide)
        refine Lim.ite (fun c => ?_) fun _ => mis
        have h2 := tail_lt c (by decide)
        refine Lim.ite (fun _ => Lim.ite (fun _ => cst _ _) fun _ => mis) fun _ => ?_
        exact step (by simp only [rank]; omega) fun t r hr => Lim.ite (fun _ => cst _ _) fun _ => mis
      · have h1 := tail_lt c (by decide)
        exact step (by simp only [rank]; omega) fun t r hr => Lim.ite (fun _ => cst _ _) fun _ => mis
    all_goals first
      | exact step (by simp only [rank]; omega) fun t r hr => one (by simp only [rank]; omega)
      | (refine Lim.ite (fun c => ?_) fun _ => cst _ _
         have h1 := tail_lt c (by decide)
         exact step (by simp only [rank]; omega) fun t r hr => one (by simp only [rank]; omega))
termination_by d => d
decreasing_by omega
theorem P.mk {m : M} {ws : List W} {y : Option (T × List W)} (N : Nat) (h : ∀ n, N ≤ n → par (n+1) m ws = some y) : P m ws y := by
  refine ⟨N + 1, fun n hn => ?_⟩
  obtain ⟨k, rfl⟩ : ∃ k, n = k + 1 := ⟨n - 1, by omega⟩
  exact h k (by omega)
theorem step1 {m m' : M} {w0 ws : List W} {b : T} {r : List W} {f : Nat → T → List W → R} {y : Option (T × List W)}
    (e : ∀ n, par (n+1) m w0 = R.andThen (par n m' ws) (f n)) (h : P m' ws (some (b, r))) (hf : Lim (fun n => f n b r) y) : P m w0 y := by
  obtain ⟨N, h⟩ := h
  obtain ⟨M, hf⟩ := hf
  exact P.mk (N + M) fun n hn => by rw [e, h n (by omega)]; exact hf n (by omega)
theorem step2 {m m' m2 : M} {w0 ws r2 : List W} {b : T} {r : List W} {F : Nat → T → List W → R} {y : Option (T × List W)}
    (e : ∀ n, par (n+1) m w0 = R.andThen (par n m' ws) (F n)) (h : P m' ws (some (b, r))) (hF : ∀ n, F n b r = par n m2 r2) (h' : P m2 r2 y) : P m w0 y :=
  step1 e h (let ⟨N, h'⟩ := h'; ⟨N, fun n hn => (hF n).trans (h' n hn)⟩)
theorem lim_ok (t : T) (r : List W) : Lim (fun _ => ok t r) (some (t, r)) := ⟨0, fun _ _ => rfl⟩
theorem P.const {m : M} {ws : List W} {t : T} {r : List W} (e : ∀ n, par (n+1) m ws = ok t r) : P m ws (some (t, r)) := P.mk 0 fun n _ => e n

theorem is_false {c : Bool} (h : c = false) : ¬ c = true := by simp [h]

section
variable {ws r : List W} {b e x : T} {y : Option (T × List W)} {k : W}
theorem P.query (h : P .core ws (some (b, r))) (h' : P (.queryL b) r y) : P .query ws y := step2 (fun _ => by rw [par]) h (fun _ => by rfl) h'
theorem P.items (h : P .item ws (some (b, r))) (h' : P (.itemsL (.cons b .none)) r y) : P .items ws y := step2 (fun _ => by rw [par]) h (fun _ => by rfl) h'
theorem P.sources (h : P .source ws (some (b, r))) (h' : P (.sourcesL (.cons b .none)) r y) : P .sources ws y := step2 (fun _ => by rw [par]) h (fun _ => by rfl) h'
theorem P.cols (h : P .col ws (some (b, r))) (h' : P (.colsL (.cons b .none)) r y) : P .cols ws y := step2 (fun _ => by rw [par]) h (fun _ => by rfl) h'
theorem P.cond (h : P .conj ws (some (b, r))) (h' : P (.condL b) r y) : P .cond ws y := step2 (fun _ => by rw [par]) h (fun _ => by rfl) h'
theorem P.conj (h : P .neg ws (some (b, r))) (h' : P (.conjL b) r y) : P .conj ws y := step2 (fun _ => by rw [par]) h (fun _ => by rfl) h'
theorem P.expr (h : P .term ws (some (b, r))) (h' : P (.exprL b) r y) : P .expr ws y := step2 (fun _ => by rw [par]) h (fun _ => by rfl) h'
theorem P.term (h : P .factor ws (some (b, r))) (h' : P (.termL b) r y) : P .term ws y := step2 (fun _ => by rw [par]) h (fun _ => by rfl) h'
theorem P.queryE (h : (hd ws).is 1 setOps = false) : P (.queryL x) ws (some (x, ws)) := P.const fun _ => by rw [par, if_neg (is_false h)]
theorem P.itemsE (h : (hd ws).is 5 [str ","] = false) : P (.itemsL x) ws (some (x, ws)) := P.const fun _ => by rw [par, if_neg (is_false h)]
theorem P.sourcesE (h : (hd ws).is 5 [str ","] = false) : P (.sourcesL x) ws (some (x, ws)) := P.const fun _ => by rw [par, if_neg (is_false h)]
theorem P.colsE (h : (hd ws).is 5 [str ","] = false) : P (.colsL x) ws (some (x, ws)) := P.const fun _ => by rw [par, if_neg (is_false h)]
theorem P.condE (h : (hd ws).is 1 [str "or"] = false) : P (.condL x) ws (some (x, ws)) := P.const fun _ => by rw [par, if_neg (is_false h)]
theorem P.conjE (h : (hd ws).is 1 [str "and"] = false) : P (.conjL x) ws (some (x, ws)) := P.const fun _ => by rw [par, if_neg (is_false h)]
theorem P.exprE (h : (hd ws).is 5 adds = false) : P (.exprL x) ws (some (x, ws)) := P.const fun _ => by rw [par, if_neg (is_false h)]
theorem P.termE (h : (hd ws).is 5 muls = false) : P (.termL x) ws (some (x, ws)) := P.const fun _ => by rw [par, if_neg (is_false h)]
theorem P.itemsL (hk : k.is 5 [str ","] = true) (h : P .item ws (some (b, r))) (h' : P (.itemsL (x.snoc b)) r y) : P (.itemsL x) (k :: ws) y :=
  step2 (fun _ => by rw [par, hd_cons, if_pos hk]; rfl) h (fun _ => by rfl) h'
theorem P.sourcesL (hk : k.is 5 [str ","] = true) (h : P .source ws (some (b, r))) (h' : P (.sourcesL (x.snoc b)) r y) : P (.sourcesL x) (k :: ws) y :=
  step2 (fun _ => by rw [par, hd_cons, if_pos hk]; rfl) h (fun _ => by rfl) h'
theorem P.colsL (hk : k.is 5 [str ","] = true) (h : P .col ws (some (b, r))) (h' : P (.colsL (x.snoc b)) r y) : P (.colsL x) (k :: ws) y :=
  step2 (fun _ => by rw [par, hd_cons, if_pos hk]; rfl) h (fun _ => by rfl) h'
theorem P.condL (hk : k.is 1 [str "or"] = true) (h : P .conj ws (some (b, r))) (h' : P (.condL (.junct k.text x b)) r y) : P (.condL x) (k :: ws) y :=
  step2 (fun _ => by rw [par, hd_cons, if_pos hk]; rfl) h (fun _ => by rfl) h'
theorem P.conjL (hk : k.is 1 [str "and"] = true) (h : P .neg ws (some (b, r))) (h' : P (.conjL (.junct k.text x b)) r y) : P (.conjL x) (k :: ws) y :=
  step2 (fun _ => by rw [par, hd_cons, if_pos hk]; rfl) h (fun _ => by rfl) h'
theorem P.exprL (hk : k.is 5 adds = true) (h : P .term ws (some (b, r))) (h' : P (.exprL (.bin k.text x b)) r y) : P (.exprL x) (k :: ws) y :=
  step2 (fun _ => by rw [par, hd_cons, if_pos hk]; rfl) h (fun _ => by rfl) h'
theorem P.termL (hk : k.is 5 muls = true) (h : P .factor ws (some (b, r))) (h' : P (.termL (.bin k.text x b)) r y) : P (.termL x) (k :: ws) y :=
  step2 (fun _ => by rw [par, hd_cons, if_pos hk]; rfl) h (fun _ => by rfl) h'
theorem P.queryL1 {l : W} (hk : k.is 1 setOps = true) (hl : l.is 1 [str "all"] = true) (h : P .core ws (some (b, r))) (h' : P (.queryL (.comb k.text true x b)) r y) :
    P (.queryL x) (k :: l :: ws) y :=
  step2 (fun _ => by rw [par, hd_cons, if_pos hk, List.tail_cons, hd_cons, if_pos hl]; rfl) h (fun _ => by rfl) h'
theorem P.queryL2 (hk : k.is 1 setOps = true) (hl : (hd ws).is 1 [str "all"] = false) (h : P .core ws (some (b, r))) (h' : P (.queryL (.comb k.text false x b)) r y) :
    P (.queryL x) (k :: ws) y :=
  step2 (fun _ => by rw [par, hd_cons, if_pos hk, List.tail_cons, if_neg (is_false hl)]) h (fun _ => by rfl) h'
theorem P.sub {o c : W} (ho : o.is 5 [str "("] = true) (h : P .query ws (some (b, c :: r))) (hc : c.is 5 [str ")"] = true) : P .sub (o :: ws) (some (b, r)) :=
  step1 (fun _ => by rw [par, hd_cons, if_pos ho]; rfl) h ⟨0, fun _ _ => by show (if _ then _ else _) = _; rw [hd_cons, if_pos hc]; rfl⟩
end

/-! ### What the first word is; brackets; the words that conditions alone have -/
def First (w : W) : Prop := w.is 5 [str "-", str "("] = true ∨ w.sort = 3 ∨ w.sort = 4 ∨ w.is 1 (str "null" :: fns) = true ∨ w.sort = 2

theorem G.ne {k : K} {w : List W} {t : T} (h : G k w t) : w ≠ [] := by
  induction h <;> simp_all

theorem hd_append {w v : List W} (h : w ≠ []) : hd (w ++ v) = hd w := by
  cases w with
  | nil => exact absurd rfl h
  | cons _ _ => rfl

theorem first_of {k : W} {s : Nat} {ts : List Str} (h : k.is s ts = true) (hd : s = 5 ∧ (∀ t ∈ ts, t ∈ [str "-", str "("]) ∨ s = 1 ∧ ∀ t ∈ ts, t ∈ str "null" :: fns) : First k := by
  rcases hd with ⟨rfl, hd⟩ | ⟨rfl, hd⟩
  · exact .inl (is_sub h hd)
  · exact .inr (.inr (.inr (.inl (is_sub h hd))))

def FirstK : K → W → Prop
  | .expr, w | .term, w | .factor, w | .item, w | .items, w => First w
  | .col, w => w.sort = 2
  | _, _ => True
theorem G.first {k : K} {w : List W} {t : T} (h : G k w t) : FirstK k (hd w) := by
  induction h <;> first
    | trivial
    | assumption
    | (rw [hd_append (G.ne ‹_›)]; assumption)
    | skip
  case f1 hk _ _ => exact first_of hk (.inl ⟨rfl, by decide⟩)
  case f2 h => exact .inr (.inl h)
  case f3 h => exact .inr (.inr (.inl h))
  case f4 h => exact first_of h (.inr ⟨rfl, by decide⟩)
  case f5 h _ _ _ => exact first_of h (.inr ⟨rfl, by decide⟩)
  case f6 h _ _ _ _ => exact first_of h (.inr ⟨rfl, by decide⟩)
  case f7 h _ _ _ => exact first_of h (.inl ⟨rfl, by decide⟩)
  case f8 h => exact .inr (.inr (.inr (.inr h)))

/-- What begins an expression begins nothing else. -/
theorem First.no {w : W} (h : First w) {s : Nat} {ts : List Str} (hd : s = 5 ∧ (∀ t ∈ [str "-", str "("], t ∉ ts) ∨ s = 1 ∧ ∀ t ∈ str "null" :: fns, t ∉ ts) : w.is s ts = false := by
  rcases hd with ⟨rfl, hd⟩ | ⟨rfl, hd⟩
  · rcases h with h | h | h | h | h
    · exact is_not h (.inr hd)
    · exact sort_not h (by decide)
    · exact sort_not h (by decide)
    · exact is_not h (.inl (by decide))
    · exact sort_not h (by decide)
  · rcases h with h | h | h | h | h
    · exact is_not h (.inl (by decide))
    · exact sort_not h (by decide)
    · exact sort_not h (by decide)
    · exact is_not h (.inr hd)
    · exact sort_not h (by decide)

/-- How many brackets more are opened than closed. -/
def dep : List W → Int
  | [] => 0
  | w :: r => (if w.is 5 [str "("] then 1 else if w.is 5 [str ")"] then -1 else 0) + dep r
theorem dep_append (a b : List W) : dep (a ++ b) = dep a + dep b := by
  induction a with
  | nil => simp [dep]
  | cons w r ih => simp only [List.cons_append, dep, ih]; omega
/-- Brackets that fit. -/
def Bal (w : List W) : Prop := dep w = 0 ∧ ∀ a b, w = a ++ b → 0 ≤ dep a
theorem Bal.nil : Bal [] := ⟨rfl, fun a b h => by have := List.append_eq_nil_iff.1 h.symm; rw [this.1]; simp [dep]⟩
theorem Bal.append {v w : List W} (hv : Bal v) (hw : Bal w) : Bal (v ++ w) := by
  refine ⟨by rw [dep_append, hv.1, hw.1]; rfl, fun a b h => ?_⟩
  rcases List.append_eq_append_iff.1 h with ⟨c, rfl, h2⟩ | ⟨c, h1, rfl⟩
  · rw [dep_append, hv.1]
    have := hw.2 c b h2
    omega
  · exact hv.2 a c h1
def Plain (w : W) : Prop := w.is 5 [str "(", str ")"] = false
theorem plain_not {w : W} (h : Plain w) : w.is 5 [str "("] = false ∧ w.is 5 [str ")"] = false := by
  unfold Plain W.is at h
  unfold W.is
  simp only [Bool.and_eq_false_iff, List.contains_cons, Bool.or_eq_false_iff] at h ⊢
  rcases h with h | h
  · exact ⟨.inl h, .inl h⟩
  · exact ⟨.inr ⟨h.1, by simp⟩, .inr ⟨h.2.1, by simp⟩⟩
theorem Bal.one {w : W} (h : Plain w) : Bal [w] := by
  obtain ⟨h1, h2⟩ := plain_not h
  have e : dep [w] = 0 := by simp [dep, h1, h2]
  refine ⟨e, fun a b hab => ?_⟩
  cases a with
  | nil => simp [dep]
  | cons x a =>
    simp only [List.cons_append, List.cons.injEq] at hab
    obtain ⟨rfl, h⟩ := hab
    rw [(List.append_eq_nil_iff.1 h.symm).1, e]; exact Int.le_refl _
theorem Bal.cons {w : W} {v : List W} (h : Plain w) (hv : Bal v) : Bal (w :: v) := Bal.append (Bal.one h) hv
theorem open_not {o : W} (h : o.is 5 [str "("] = true) : o.is 5 [str ")"] = false := is_not h (.inr (by decide))
theorem shut_not {o : W} (h : o.is 5 [str ")"] = true) : o.is 5 [str "("] = false := is_not h (.inr (by decide))
theorem Bal.round {o c : W} {v : List W} (ho : o.is 5 [str "("] = true) (hv : Bal v) (hc : c.is 5 [str ")"] = true) : Bal (o :: (v ++ [c])) := by
  have e : ∀ a, dep (o :: a) = 1 + dep a := fun a => by simp [dep, ho]
  have e2 : dep [c] = -1 := by simp [dep, hc, shut_not hc]
  refine ⟨by rw [e, dep_append, hv.1, e2]; rfl, fun a b h => ?_⟩
  cases a with
  | nil => simp [dep]
  | cons x a =>
    simp only [List.cons_append, List.cons.injEq] at h
    obtain ⟨rfl, h⟩ := h
    rw [e]
    rcases List.append_eq_append_iff.1 h with ⟨d, rfl, h2⟩ | ⟨d, h1, rfl⟩
    · rw [dep_append, hv.1]
      cases d with
      | nil => simp [dep]
      | cons z d =>
        simp only [List.cons_append, List.cons.injEq] at h2
        obtain ⟨rfl, h2⟩ := h2
        have : d = [] := (List.append_eq_nil_iff.1 h2.symm).1
        rw [this, e2]; decide
    · have := hv.2 a d h1
      omega
theorem plain_of {k : W} {s : Nat} {ts : List Str} (h : k.is s ts = true) (hd : s ≠ 5 ∨ ∀ t ∈ ts, t ∉ [str "(", str ")"]) : Plain k := is_not h hd
theorem plain_sort {k : W} {s : Nat} (h : k.sort = s) (hd : s ≠ 5) : Plain k := sort_not h hd
theorem G.bal {k : K} {w : List W} {t : T} (h : G k w t) : Bal w := by
  induction h
  case f5 h1 h2 h3 h4 => exact Bal.cons (plain_of h1 (.inl (by decide))) (Bal.round (v := [_]) h2 (Bal.one (plain_of h3 (.inr (by decide)))) h4)
  all_goals first
    | assumption
    | exact Bal.nil
    | (repeat first
        | assumption
        | exact Bal.round ‹_› ‹_› ‹_›
        | refine Bal.append ?_ ?_
        | refine Bal.cons ?_ ?_
        | exact Bal.nil
        | exact plain_of ‹_› (.inl (by decide))
        | exact plain_of ‹_› (.inr (by decide))
        | exact plain_sort ‹_› (by decide))
/-- The words that stand in conditions alone. -/
def CW (w : W) : Prop := w.is 1 [str "exists", str "is", str "in"] = true ∨ w.is 5 cmps = true
def NoCW (w : W) : Prop := w.is 1 [str "exists", str "is", str "in"] = false ∧ w.is 5 cmps = false
def CondK : K → List W → Prop
  | .cond, w | .conj, w | .neg, w | .basic, w => ∃ x ∈ w, CW x
  | .expr, w | .term, w | .factor, w | .col, w => ∀ x ∈ w, NoCW x
  | _, _ => True
theorem nocw_of {k : W} {s : Nat} {ts : List Str} (h : k.is s ts = true) (hd : (s = 5 ∧ ∀ t ∈ ts, t ∉ cmps) ∨ (s = 1 ∧ ∀ t ∈ ts, t ∉ [str "exists", str "is", str "in"])) : NoCW k := by
  rcases hd with ⟨rfl, hd⟩ | ⟨rfl, hd⟩
  · exact ⟨is_not h (.inl (by decide)), is_not h (.inr hd)⟩
  · exact ⟨is_not h (.inr hd), is_not h (.inl (by decide))⟩
theorem nocw_sort {k : W} {s : Nat} (h : k.sort = s) (hd : s ≠ 5 ∧ s ≠ 1) : NoCW k := ⟨sort_not h hd.2, sort_not h hd.1⟩
theorem G.cw {k : K} {w : List W} {t : T} (h : G k w t) : CondK k w := by
  induction h
  case co1 h => intro x hx; simp only [List.mem_cons, List.not_mem_nil, or_false] at hx; subst hx; exact nocw_sort h (by decide)
  case co2 h1 h2 h3 =>
    intro x hx; simp only [List.mem_cons, List.not_mem_nil, or_false] at hx
    rcases hx with rfl | rfl | rfl
    · exact nocw_sort h1 (by decide)
    · exact nocw_of h2 (.inl ⟨rfl, by decide⟩)
    · exact nocw_sort h3 (by decide)
  case or1 ih => exact ih
  case and1 ih => exact ih
  case n1 ih => exact ih
  case or2 ih _ => obtain ⟨x, hx, hc⟩ := ih; exact ⟨x, by simp [hx], hc⟩
  case and2 ih _ => obtain ⟨x, hx, hc⟩ := ih; exact ⟨x, by simp [hx], hc⟩
  case n2 ih => obtain ⟨x, hx, hc⟩ := ih; exact ⟨x, by simp [hx], hc⟩
  case b1 h _ _ _ _ => exact ⟨_, by simp, .inl (is_sub h (by decide))⟩
  case b2 ih => obtain ⟨x, hx, hc⟩ := ih; exact ⟨x, by simp [hx], hc⟩
  case b3 i n _ h _ _ => exact ⟨i, by simp, .inl (is_sub h (by decide))⟩
  case b4 i _ n _ h _ _ _ => exact ⟨i, by simp, .inl (is_sub h (by decide))⟩
  case b5 i _ _ _ _ _ h _ _ _ _ _ => exact ⟨i, by simp, .inl (is_sub h (by decide))⟩
  case b6 i _ _ _ _ _ _ h _ _ _ _ _ => exact ⟨i, by simp, .inl (is_sub h (by decide))⟩
  case b7 s _ _ _ _ _ _ h _ _ _ _ _ _ => exact ⟨s, by simp, .inr h⟩
  case b8 s _ _ _ h _ _ _ => exact ⟨s, by simp, .inr h⟩
  case e1 ih => exact ih
  case te1 ih => exact ih
  case f8 ih => exact ih
  case e2 h _ ih1 ih2 =>
    intro x hx; simp only [List.mem_append, List.mem_cons] at hx
    rcases hx with hx | rfl | hx
    · exact ih1 x hx
    · exact nocw_of h (.inl ⟨rfl, by decide⟩)
    · exact ih2 x hx
  case te2 h _ ih1 ih2 =>
    intro x hx; simp only [List.mem_append, List.mem_cons] at hx
    rcases hx with hx | rfl | hx
    · exact ih1 x hx
    · exact nocw_of h (.inl ⟨rfl, by decide⟩)
    · exact ih2 x hx
  case f1 h _ ih =>
    intro x hx; simp only [List.mem_cons] at hx
    rcases hx with rfl | hx
    · exact nocw_of h (.inl ⟨rfl, by decide⟩)
    · exact ih x hx
  case f2 h => intro x hx; simp only [List.mem_cons, List.not_mem_nil, or_false] at hx; subst hx; exact nocw_sort h (by decide)
  case f3 h => intro x hx; simp only [List.mem_cons, List.not_mem_nil, or_false] at hx; subst hx; exact nocw_sort h (by decide)
  case f4 h => intro x hx; simp only [List.mem_cons, List.not_mem_nil, or_false] at hx; subst hx; exact nocw_of h (.inr ⟨rfl, by decide⟩)
  case f5 h1 h2 h3 h4 =>
    intro x hx; simp only [List.mem_cons, List.not_mem_nil, or_false] at hx
    rcases hx with rfl | rfl | rfl | rfl
    · exact nocw_of h1 (.inr ⟨rfl, by decide⟩)
    · exact nocw_of h2 (.inl ⟨rfl, by decide⟩)
    · exact nocw_of h3 (.inl ⟨rfl, by decide⟩)
    · exact nocw_of h4 (.inl ⟨rfl, by decide⟩)
  case f6 h1 h2 _ h4 ih =>
    intro x hx; simp only [List.mem_cons, List.mem_append, List.not_mem_nil, or_false] at hx
    rcases hx with rfl | rfl | hx | rfl
    · exact nocw_of h1 (.inr ⟨rfl, by decide⟩)
    · exact nocw_of h2 (.inl ⟨rfl, by decide⟩)
    · exact ih x hx
    · exact nocw_of h4 (.inl ⟨rfl, by decide⟩)
  case f7 h2 _ h4 ih =>
    intro x hx; simp only [List.mem_cons, List.mem_append, List.not_mem_nil, or_false] at hx
    rcases hx with rfl | hx | rfl
    · exact nocw_of h2 (.inl ⟨rfl, by decide⟩)
    · exact ih x hx
    · exact nocw_of h4 (.inl ⟨rfl, by decide⟩)
  all_goals trivial

/-- No stretch of words is a condition and an expression. -/
theorem not_both {w : List W} {a b : T} (h1 : G .cond w a) (h2 : G .expr w b) : False := by
  obtain ⟨x, hx, hc⟩ := h1.cw
  obtain ⟨n1, n2⟩ := h2.cw x hx
  rcases hc with hc | hc
  · rw [n1] at hc; cases hc
  · rw [n2] at hc; cases hc

/-- What stands in brackets ends where its brackets fit. -/
theorem round_uniq {a b x y : List W} {c d : W} (ha : Bal a) (hb : Bal b) (hc : c.is 5 [str ")"] = true) (hd : d.is 5 [str ")"] = true)
    (h : a ++ c :: x = b ++ d :: y) : a = b := by
  have key : ∀ {a b : List W} {e : List W} {d : W} {y z : List W}, Bal a → Bal b → d.is 5 [str ")"] = true → a = b ++ e → e ++ y = d :: z → e = [] := by
    intro a b e d y z ha hb hd he h
    cases e with
    | nil => rfl
    | cons w e =>
      simp only [List.cons_append, List.cons.injEq] at h
      obtain ⟨rfl, _⟩ := h
      exfalso
      have h1 := ha.2 (b ++ [w]) e (by rw [he]; simp)
      have e2 : dep [w] = -1 := by simp [dep, hd, shut_not hd]
      rw [dep_append, hb.1, e2] at h1
      omega
  rcases List.append_eq_append_iff.1 h with ⟨e, he, h2⟩ | ⟨e, he, h2⟩
  · have := key hb ha hc he h2.symm
    rw [he, this]; simp
  · have := key ha hb hd he h2.symm
    rw [he, this]; simp

/-- Where an expression begins with a bracket, an expression stands in that bracket. -/
def OpenK : K → List W → Prop
  | .expr, w | .term, w | .factor, w => ∀ o r, w = o :: r → o.is 5 [str "("] = true → ∃ e c v t, r = e ++ c :: v ∧ G .expr e t ∧ c.is 5 [str ")"] = true
  | _, _ => True
theorem OpenK.more {k : K} {w v : List W} (hk : k = .expr ∨ k = .term ∨ k = .factor) (hw : w ≠ []) (h : OpenK k w) : OpenK k (w ++ v) := by
  have aux : ∀ o r, w ++ v = o :: r → ∃ r', w = o :: r' ∧ r = r' ++ v := by
    intro o r e
    cases w with
    | nil => exact absurd rfl hw
    | cons z w => simp only [List.cons_append, List.cons.injEq] at e; exact ⟨w, by rw [e.1], e.2.symm⟩
  rcases hk with rfl | rfl | rfl <;>
  · intro o r e ho
    obtain ⟨r', e1, rfl⟩ := aux o r e
    obtain ⟨e', c, v', t, rfl, g, hc⟩ := h o r' e1 ho
    exact ⟨e', c, v' ++ v, t, by simp, g, hc⟩
theorem G.opens {k : K} {w : List W} {t : T} (h : G k w t) : OpenK k w := by
  induction h <;> try trivial
  case e2 ih _ => exact OpenK.more (.inl rfl) (G.ne ‹_›) ih
  case te2 ih _ => exact OpenK.more (.inr (.inl rfl)) (G.ne ‹_›) ih
  case f1 h _ _ => rintro o r ⟨rfl, rfl⟩ ho; rw [is_not h (.inr (by decide))] at ho; cases ho
  case f2 h => rintro o r ⟨rfl, rfl⟩ ho; rw [sort_not h (by decide)] at ho; cases ho
  case f3 h => rintro o r ⟨rfl, rfl⟩ ho; rw [sort_not h (by decide)] at ho; cases ho
  case f4 h => rintro o r ⟨rfl, rfl⟩ ho; rw [is_not h (.inl (by decide))] at ho; cases ho
  case f5 h _ _ _ => rintro o r ⟨rfl, rfl⟩ ho; rw [is_not h (.inl (by decide))] at ho; cases ho
  case f6 h _ _ _ _ => rintro o r ⟨rfl, rfl⟩ ho; rw [is_not h (.inl (by decide))] at ho; cases ho
  case f7 e h1 g h2 _ => rintro o r ⟨rfl, rfl⟩ ho; exact ⟨_, _, [], _, rfl, g, h2⟩
  case f8 g _ =>
    intro o r e ho
    have := g.first
    rw [e] at this
    rw [sort_not (s := 2) (s' := 5) (show o.sort = 2 from this) (by decide)] at ho; cases ho
theorem P.basic_e {ws v w : List W} {a : T} {z : Option (T × List W)} (g : G .expr w a) (e : ws = w ++ v) (h : P .basicE ws z) : P .basic ws z := by
  have hf : First (hd ws) := by rw [e, hd_append g.ne]; exact g.first
  have h0 : (hd ws).is 1 [str "exists"] = false := hf.no (.inr ⟨rfl, by decide⟩)
  obtain ⟨N, h⟩ := h
  cases ho : (hd ws).is 5 [str "("] with
  | false => exact P.mk N fun n hn => by rw [par, if_neg (is_false h0), if_neg (is_false ho)]; exact h n hn
  | true =>
    obtain ⟨y, M, hy⟩ := total _ .cond ws.tail (Nat.le_refl _)
    have key : ∀ c r, y = some (c, r) → (hd r).is 5 [str ")"] = false := by
      intro c r hyc
      cases hc : (hd r).is 5 [str ")"] with
      | false => rfl
      | true =>
        exfalso
        subst hyc
        obtain ⟨o, r0, hw, ho'⟩ := hd_is ho (by decide)
        obtain ⟨pre, he, gc⟩ := P.sound ⟨M, hy⟩
        obtain ⟨d, r1, rfl, hd'⟩ := hd_is hc (by decide)
        rw [hw, List.tail_cons] at he
        obtain ⟨w', rfl⟩ : ∃ w', w = o :: w' := by
          cases w with
          | nil => exact absurd rfl g.ne
          | cons x w' => rw [e] at hw; simp only [List.cons_append, List.cons.injEq] at hw; exact ⟨w', by rw [hw.1]⟩
        obtain ⟨e1, c1, v1, t1, hw1, g1, hc1⟩ := g.opens o w' rfl ho'
        rw [e] at hw
        simp only [List.cons_append, List.cons.injEq, true_and] at hw
        have hh : e1 ++ c1 :: (v1 ++ v) = pre ++ d :: r1 := by rw [← he, ← hw, hw1]; simp
        have := round_uniq g1.bal (G.bal (k := .cond) gc) hc1 hd' hh
        subst this
        exact not_both gc g1
    refine P.mk (N + M) fun n hn => ?_
    rw [par, if_neg (is_false h0), if_pos ho, hy n (by omega)]
    cases y with
    | none => exact h n (by omega)
    | some p =>
      obtain ⟨c, r⟩ := p
      show (if _ then _ else _) = _
      rw [if_neg (is_false (key c r rfl))]
      exact h n (by omega)

theorem FExpr.key {w : W} (h : w.sort = 1) : FExpr w := ⟨⟨sort_not h (by decide), sort_not h (by decide)⟩, sort_not h (by decide)⟩
theorem FExpr.key' {w : W} {ts : List Str} (h : w.is 1 ts = true) : FExpr w := FExpr.key (is_sort h)
theorem FExpr.sign {w : W} {ts : List Str} (h : w.is 5 ts = true) (h1 : ∀ t ∈ ts, t ∉ str "." :: (muls ++ adds)) : FExpr w := by
  have := h1 _ (is_text h)
  simp only [List.mem_cons, List.mem_append, not_or] at this
  exact ⟨⟨is_not h (.inr fun t ht => by have := h1 t ht; simp only [List.mem_cons, List.mem_append, not_or] at this; simp [this.1]),
    is_not h (.inr fun t ht => by have := h1 t ht; simp only [List.mem_cons, List.mem_append, not_or] at this; exact this.2.1)⟩,
    is_not h (.inr fun t ht => by have := h1 t ht; simp only [List.mem_cons, List.mem_append, not_or] at this; exact this.2.2)⟩
def FSrc (w : W) : Prop := w.is 1 [str "as"] = false
theorem FCore.sign {w : W} {ts : List Str} (h : w.is 5 ts = true) (h1 : ∀ t ∈ ts, t ∉ str "," :: str "." :: (muls ++ adds)) : FCore w :=
  ⟨⟨⟨FExpr.sign h (fun t ht hm => h1 t ht (by simp only [List.mem_cons] at hm ⊢; exact .inr hm)), is_not h (.inl (by decide))⟩, is_not h (.inl (by decide))⟩, is_not h (.inl (by decide)),
    is_not h (.inr fun t ht => by have := h1 t ht; simp only [List.mem_cons, not_or] at this; simp [this.1]), is_not h (.inl (by decide)), is_not h (.inl (by decide)), is_not h (.inl (by decide))⟩
theorem FCore.key {w : W} {ts : List Str} (h : w.is 1 ts = true) (h1 : ∀ t ∈ ts, t ∉ [str "and", str "or", str "as", str "where", str "group", str "having"]) : FCore w := by
  have aux : ∀ x, x ∈ [str "and", str "or", str "as", str "where", str "group", str "having"] → w.is 1 [x] = false := fun x hx =>
    is_not h (.inr fun t ht hm => by simp only [List.mem_cons, List.not_mem_nil, or_false] at hm; subst hm; exact h1 t ht hx)
  exact ⟨⟨⟨FExpr.key' h, aux _ (by simp)⟩, aux _ (by simp)⟩, aux _ (by simp), is_not h (.inl (by decide)), aux _ (by simp), aux _ (by simp), aux _ (by simp)⟩
theorem FItem.key {w : W} {ts : List Str} (h : w.is 1 ts = true) (h1 : ∀ t ∈ ts, t ∉ [str "as"]) : FItem w := ⟨FExpr.key' h, is_not h (.inr h1)⟩
theorem G.basicNot {w : List W} {t : T} (h : G .basic w t) : (hd w).is 1 [str "not"] = false := by
  have aux : ∀ {w v : List W} {a : T}, G .expr w a → (hd (w ++ v)).is 1 [str "not"] = false := fun g => by
    rw [hd_append g.ne]; exact (G.first g : First _).no (.inr ⟨rfl, by decide⟩)
  cases h with
  | b1 h => exact is_not h (.inr (by decide))
  | b2 h => exact is_not h (.inl (by decide))
  | b3 g => exact aux g
  | b4 g => exact aux g
  | b5 g => exact aux g
  | b6 g => exact aux g
  | b7 g => exact aux g
  | b8 g => exact aux g
theorem FConj.key {w : W} {ts : List Str} (h : w.is 1 ts = true) (h1 : ∀ t ∈ ts, t ∉ [str "and"]) : FConj w := ⟨FExpr.key' h, is_not h (.inr h1)⟩
theorem FCond.key {w : W} {ts : List Str} (h : w.is 1 ts = true) (h1 : ∀ t ∈ ts, t ∉ [str "and", str "or"]) : FCond w :=
  ⟨⟨FExpr.key' h, is_not h (.inr fun t ht hm => by have := h1 t ht; simp_all)⟩, is_not h (.inr fun t ht hm => by have := h1 t ht; simp_all)⟩

/-- What a stretch of words is, the reader finds. -/
def C : K → List W → T → Prop
  | .query, w, t => ∀ rest y, FCore (hd rest) → P (.queryL t) rest y → P .query (w ++ rest) y
  | .core, w, t => ∀ rest, FCore (hd rest) → P .core (w ++ rest) (some (t, rest))
  | .tail, w, t => ∀ d it fr rest f wh g h, t = .sel false .none f wh g h → fr.is 1 [str "from"] = true → FCore (hd rest) → P (.tail d it) (fr :: (w ++ rest)) (some (.sel d it f wh g h, rest))
  | .after, w, t => ∀ d it f wh g h rest, t = .sel false .none .none wh g h → FCore (hd rest) → ∃ r, P .cond (w ++ rest) (some (wh, r)) ∧ P (.after d it f wh) r (some (.sel d it f wh g h, rest))
  | .grouped, w, t => ∀ d it f wh g h k l rest, t = .sel false .none .none .none g h → k.is 1 [str "group"] = true → l.is 1 [str "by"] = true → FCore (hd rest) →
      P (.after d it f wh) (k :: l :: (w ++ rest)) (some (.sel d it f wh g h, rest))
  | .items, w, t => ∀ rest y, FItem (hd rest) → P (.itemsL t) rest y → P .items (w ++ rest) y
  | .item, w, t => ∀ rest, FItem (hd rest) → P .item (w ++ rest) (some (t, rest))
  | .sources, w, t => ∀ rest y, FSrc (hd rest) → P (.sourcesL t) rest y → P .sources (w ++ rest) y
  | .source, w, t => ∀ rest, FSrc (hd rest) → P .source (w ++ rest) (some (t, rest))
  | .cols, w, t => ∀ rest y, FFac (hd rest) → P (.colsL t) rest y → P .cols (w ++ rest) y
  | .col, w, t => ∀ rest, FFac (hd rest) → P .col (w ++ rest) (some (t, rest))
  | .cond, w, t => ∀ rest y, FConj (hd rest) → P (.condL t) rest y → P .cond (w ++ rest) y
  | .conj, w, t => ∀ rest y, FExpr (hd rest) → P (.conjL t) rest y → P .conj (w ++ rest) y
  | .neg, w, t => ∀ rest, FExpr (hd rest) → P .neg (w ++ rest) (some (t, rest))
  | .basic, w, t => ∀ rest, FExpr (hd rest) → P .basic (w ++ rest) (some (t, rest))
  | .expr, w, t => ∀ rest y, FTerm (hd rest) → P (.exprL t) rest y → P .expr (w ++ rest) y
  | .term, w, t => ∀ rest y, FFac (hd rest) → P (.termL t) rest y → P .term (w ++ rest) y
  | .factor, w, t => ∀ rest, FFac (hd rest) → P .factor (w ++ rest) (some (t, rest))

theorem C.expr' {w : List W} {t : T} (h : C .expr w t) {rest : List W} (hr : FExpr (hd rest)) : P .expr (w ++ rest) (some (t, rest)) := h rest _ hr.1 (P.exprE hr.2)
theorem C.cond' {w : List W} {t : T} (h : C .cond w t) {rest : List W} (hr : FCond (hd rest)) : P .cond (w ++ rest) (some (t, rest)) := h rest _ hr.1 (P.condE hr.2)
theorem C.query' {w : List W} {t : T} (h : C .query w t) {rest : List W} (hr : FQuery (hd rest)) : P .query (w ++ rest) (some (t, rest)) := h rest _ hr.1 (P.queryE hr.2)
theorem FQuery.shut {c : W} (h : c.is 5 [str ")"] = true) : FQuery c := ⟨FCore.sign h (by decide), is_not h (.inl (by decide))⟩
theorem FCond.shut {c : W} (h : c.is 5 [str ")"] = true) : FCond c := (FCore.sign h (by decide)).1
theorem FExpr.shut {c : W} (h : c.is 5 [str ")"] = true) : FExpr c := FExpr.sign h (by decide)
theorem C.sub {w : List W} {t : T} (h : C .query w t) {o c : W} (ho : o.is 5 [str "("] = true) (hc : c.is 5 [str ")"] = true) (rest : List W) :
    P .sub (o :: (w ++ c :: rest)) (some (t, rest)) := P.sub ho (h.query' (rest := c :: rest) (FQuery.shut hc)) hc

theorem asOf_no {e : Str → T} {ws : List W} (h : FSrc (hd ws)) : asOf e ws = ok (e []) ws := by unfold asOf; rw [if_neg (is_false h)]
theorem asOf_yes {e : Str → T} {a n : W} {ws : List W} (h : a.is 1 [str "as"] = true) (hn : n.sort = 2) : asOf e (a :: n :: ws) = ok (e n.text) ws := by
  unfold asOf; rw [hd_cons, if_pos h, List.tail_cons, hd_cons, if_pos hn]; rfl

theorem G.firstCore {w : List W} {t : T} (h : G .core w t) : (hd w).is 5 [str "("] = true ∨ (hd w).is 1 [str "select"] = true := by
  cases h with
  | c1 h => exact .inl h
  | c2 h => exact .inr h
  | c3 h => exact .inr h
  | c4 h => exact .inr h
  | c5 h => exact .inr h

theorem P.core_sel {s : W} {r r' : List W} {it t : T} {y : List W} (hs : s.is 1 [str "select"] = true) (h : P .items r (some (it, r'))) (hf : First (hd r))
    (ht : P (.tail false it) r' (some (t, y))) : P .core (s :: r) (some (t, y)) := by
  obtain ⟨N, h⟩ := h
  obtain ⟨M, ht⟩ := ht
  refine P.mk (N + M) fun n hn => ?_
  have e1 : s.is 5 [str "("] = false := is_not hs (.inl (by decide))
  have e2 : (hd r).is 1 [str "distinct"] = false := hf.no (.inr ⟨rfl, by decide⟩)
  have e3 : (hd r).is 5 [str "*"] = false := hf.no (.inl ⟨rfl, by decide⟩)
  simp only [par, hd_cons, List.tail_cons, e1, hs, e2, e3, if_true, if_false, Bool.false_eq_true, h n (by omega), R.andThen, ht n (by omega)]
theorem P.core_seld {s d : W} {r r' : List W} {it t : T} {y : List W} (hs : s.is 1 [str "select"] = true) (hd' : d.is 1 [str "distinct"] = true) (h : P .items r (some (it, r'))) (hf : First (hd r))
    (ht : P (.tail true it) r' (some (t, y))) : P .core (s :: d :: r) (some (t, y)) := by
  obtain ⟨N, h⟩ := h
  obtain ⟨M, ht⟩ := ht
  refine P.mk (N + M) fun n hn => ?_
  have e1 : s.is 5 [str "("] = false := is_not hs (.inl (by decide))
  have e3 : (hd r).is 5 [str "*"] = false := hf.no (.inl ⟨rfl, by decide⟩)
  simp only [par, hd_cons, List.tail_cons, e1, hs, hd', e3, if_true, if_false, Bool.false_eq_true, h n (by omega), R.andThen, ht n (by omega)]
theorem P.core_star {s st : W} {r : List W} {t : T} {y : List W} (hs : s.is 1 [str "select"] = true) (hst : st.is 5 [str "*"] = true)
    (ht : P (.tail false .none) r (some (t, y))) : P .core (s :: st :: r) (some (t, y)) := by
  obtain ⟨M, ht⟩ := ht
  refine P.mk M fun n hn => ?_
  have e1 : s.is 5 [str "("] = false := is_not hs (.inl (by decide))
  have e2 : st.is 1 [str "distinct"] = false := is_not hst (.inl (by decide))
  simp only [par, hd_cons, List.tail_cons, e1, hs, e2, hst, if_true, if_false, Bool.false_eq_true, ht n (by omega)]
theorem P.core_stard {s d st : W} {r : List W} {t : T} {y : List W} (hs : s.is 1 [str "select"] = true) (hd' : d.is 1 [str "distinct"] = true) (hst : st.is 5 [str "*"] = true)
    (ht : P (.tail true .none) r (some (t, y))) : P .core (s :: d :: st :: r) (some (t, y)) := by
  obtain ⟨M, ht⟩ := ht
  refine P.mk M fun n hn => ?_
  have e1 : s.is 5 [str "("] = false := is_not hs (.inl (by decide))
  simp only [par, hd_cons, List.tail_cons, e1, hs, hd', hst, if_true, if_false, Bool.false_eq_true, ht n (by omega)]
theorem P.tail1 {d : Bool} {it f t : T} {fr : W} {r r' y : List W} (hfr : fr.is 1 [str "from"] = true) (h : P .sources r (some (f, r'))) (hw : (hd r').is 1 [str "where"] = false)
    (ht : P (.after d it f .none) r' (some (t, y))) : P (.tail d it) (fr :: r) (some (t, y)) := by
  obtain ⟨N, h⟩ := h
  obtain ⟨M, ht⟩ := ht
  refine P.mk (N + M) fun n hn => ?_
  simp only [par, hd_cons, List.tail_cons, hfr, hw, if_true, if_false, Bool.false_eq_true, h n (by omega), R.andThen, ht n (by omega)]
theorem P.tail2 {d : Bool} {it f w t : T} {fr k : W} {r r' r'' y : List W} (hfr : fr.is 1 [str "from"] = true) (h : P .sources r (some (f, k :: r'))) (hw : k.is 1 [str "where"] = true)
    (hc : P .cond r' (some (w, r''))) (ht : P (.after d it f w) r'' (some (t, y))) : P (.tail d it) (fr :: r) (some (t, y)) := by
  obtain ⟨N, h⟩ := h
  obtain ⟨M, hc⟩ := hc
  obtain ⟨L, ht⟩ := ht
  refine P.mk (N + M + L) fun n hn => ?_
  simp only [par, hd_cons, List.tail_cons, hfr, hw, if_true, h n (by omega), R.andThen, hc n (by omega), ht n (by omega)]
theorem P.after0 {d : Bool} {it f w : T} {r : List W} (h : (hd r).is 1 [str "group"] = false) : P (.after d it f w) r (some (.sel d it f w .none .none, r)) :=
  P.const fun _ => by rw [par, if_neg (is_false h)]
theorem P.after1 {d : Bool} {it f w g : T} {k l : W} {r r' : List W} (hk : k.is 1 [str "group"] = true) (hl : l.is 1 [str "by"] = true) (h : P .cols r (some (g, r')))
    (hh : (hd r').is 1 [str "having"] = false) : P (.after d it f w) (k :: l :: r) (some (.sel d it f w g .none, r')) := by
  obtain ⟨N, h⟩ := h
  refine P.mk N fun n hn => ?_
  simp only [par, hd_cons, List.tail_cons, hk, hl, hh, if_true, if_false, Bool.false_eq_true, h n (by omega), R.andThen]; rfl
theorem P.after2 {d : Bool} {it f w g c : T} {k l hv : W} {r r' r'' : List W} (hk : k.is 1 [str "group"] = true) (hl : l.is 1 [str "by"] = true) (h : P .cols r (some (g, hv :: r')))
    (hh : hv.is 1 [str "having"] = true) (hc : P .cond r' (some (c, r''))) : P (.after d it f w) (k :: l :: r) (some (.sel d it f w g c, r'')) := by
  obtain ⟨N, h⟩ := h
  obtain ⟨M, hc⟩ := hc
  refine P.mk (N + M) fun n hn => ?_
  simp only [par, hd_cons, List.tail_cons, hk, hl, hh, if_true, h n (by omega), R.andThen, hc n (by omega)]; rfl

theorem complete {k : K} {w : List W} {t : T} (h : G k w t) : C k w t := by
  induction h
  case q1 ih => exact fun rest y hr hy => P.query (ih rest hr) hy
  case q2 w v a b k ga hk gb iha ihb =>
    intro rest y hr hy
    simp only [List.append_assoc, List.cons_append]
    refine iha _ _ (FCore.key hk (by decide)) (P.queryL2 hk ?_ (ihb rest hr) hy)
    rw [hd_append gb.ne]
    exact (match G.firstCore gb with | .inl h => is_not h (.inl (by decide)) | .inr h => is_not h (.inr (by decide)))
  case q3 w v a b k l ga hk hl gb iha ihb =>
    intro rest y hr hy
    simp only [List.append_assoc, List.cons_append]
    exact iha _ _ (FCore.key hk (by decide)) (P.queryL1 hk hl (ihb rest hr) hy)
  case c1 w t o c ho g hc ih =>
    intro rest hr
    obtain ⟨N, h⟩ := C.sub ih ho hc rest
    simp only [List.cons_append, List.append_assoc, List.nil_append]
    exact P.mk N fun n hn => by rw [par, hd_cons, if_pos ho]; exact h n hn
  case c2 w v s fr it f wh g h hs gi hfr gt ihi iht =>
    intro rest hr
    simp only [List.cons_append, List.append_assoc]
    refine P.core_sel hs (ihi _ _ (FItem.key hfr (by decide)) (P.itemsE ?_)) ?_ (iht _ _ _ _ _ _ _ _ rfl hfr hr)
    · exact is_not hfr (.inl (by decide))
    · rw [hd_append gi.ne]; exact gi.first
  case c3 w v s d fr it f wh g h hs hdd gi hfr gt ihi iht =>
    intro rest hr
    simp only [List.cons_append, List.append_assoc]
    refine P.core_seld hs hdd (ihi _ _ (FItem.key hfr (by decide)) (P.itemsE ?_)) ?_ (iht _ _ _ _ _ _ _ _ rfl hfr hr)
    · exact is_not hfr (.inl (by decide))
    · rw [hd_append gi.ne]; exact gi.first
  case c4 v s st fr f wh g h hs hst hfr gt iht =>
    intro rest hr
    exact P.core_star hs hst (iht _ _ _ _ _ _ _ _ rfl hfr hr)
  case c5 v s d st fr f wh g h hs hdd hst hfr gt iht =>
    intro rest hr
    exact P.core_stard hs hdd hst (iht _ _ _ _ _ _ _ _ rfl hfr hr)
  case t1 w f g ih =>
    intro d it fr rest f' wh g' h e hfr hr
    cases e
    exact P.tail1 hfr (ih rest _ hr.2.1 (P.sourcesE hr.2.2.1)) hr.2.2.2.1 (P.after0 hr.2.2.2.2.1)
  case t2 w v k f wh g h gs hk ga ihs iha =>
    intro d it fr rest f' wh' g' h' e hfr hr
    cases e
    simp only [List.append_assoc, List.cons_append]
    obtain ⟨r, h1, h2⟩ := iha d it f wh g h rest rfl hr
    exact P.tail2 hfr (ihs _ _ (is_not hk (.inr (by decide))) (P.sourcesE (is_not hk (.inl (by decide))))) hk h1 h2
  case t3 w v k l f g h gs hk hl ga ihs iha =>
    intro d it fr rest f' wh' g' h' e hfr hr
    cases e
    simp only [List.append_assoc, List.cons_append]
    exact P.tail1 hfr (ihs _ _ (is_not hk (.inr (by decide))) (P.sourcesE (is_not hk (.inl (by decide))))) (is_not hk (.inr (by decide))) (iha _ _ _ _ _ _ _ _ _ rfl hk hl hr)
  case a1 w c g ih =>
    intro d it f wh g' h rest e hr
    cases e
    exact ⟨rest, ih.cond' hr.1, P.after0 hr.2.2.2.2.1⟩
  case a2 w v k l c g h gc hk hl gg ihc ihg =>
    intro d it f wh g' h' rest e hr
    cases e
    simp only [List.append_assoc, List.cons_append]
    exact ⟨_, ihc.cond' (FCond.key hk (by decide)), ihg _ _ _ _ _ _ _ _ _ rfl hk hl hr⟩
  case g1 w g gc ih =>
    intro d it f wh g' h k l rest e hk hl hr
    cases e
    exact P.after1 hk hl (ih rest _ hr.1.1.1.1.1 (P.colsE hr.2.2.1)) hr.2.2.2.2.2
  case g2 w v k' g h gc hk' gh ihc ihh =>
    intro d it f wh g' h' k l rest e hk hl hr
    cases e
    simp only [List.append_assoc, List.cons_append]
    exact P.after2 hk hl (ihc _ _ (is_not hk' (.inl (by decide))) (P.colsE (is_not hk' (.inl (by decide))))) hk' (ihh.cond' hr.1)
  case is1 ih => exact fun rest y hr hy => P.items (ih rest hr) hy
  case is2 w v k l x gl hk gx ihl ihx =>
    intro rest y hr hy
    simp only [List.append_assoc, List.cons_append]
    exact ihl _ _ ⟨FExpr.sign hk (by decide), is_not hk (.inl (by decide))⟩ (P.itemsL hk (ihx rest hr) hy)
  case i1 w e g ih =>
    intro rest hr
    obtain ⟨N, h⟩ := ih.expr' hr.1
    exact P.mk N fun n hn => by rw [par, h n hn]; exact asOf_no hr.2
  case i2 w e a n g ha hn ih =>
    intro rest hr
    simp only [List.append_assoc, List.cons_append, List.nil_append]
    obtain ⟨N, h⟩ := ih.expr' (rest := a :: n :: rest) (FExpr.key' ha)
    exact P.mk N fun m hm => by rw [par, h m hm]; exact asOf_yes ha hn
  case ss1 ih => exact fun rest y hr hy => P.sources (ih rest hr) hy
  case ss2 w v k l x gl hk gx ihl ihx =>
    intro rest y hr hy
    simp only [List.append_assoc, List.cons_append]
    exact ihl _ _ (is_not hk (.inl (by decide))) (P.sourcesL hk (ihx rest hr) hy)
  case s1 n hn => exact fun rest hr => P.const fun _ => by rw [par, List.cons_append, hd_cons, if_pos hn]; exact asOf_no hr
  case s2 n a m hn ha hm => exact fun rest hr => P.const fun _ => by rw [par, List.cons_append, hd_cons, if_pos hn]; exact asOf_yes ha hm
  case cs1 ih => exact fun rest y hr hy => P.cols (ih rest hr) hy
  case cs2 w v k l x gl hk gx ihl ihx =>
    intro rest y hr hy
    simp only [List.append_assoc, List.cons_append]
    exact ihl _ _ (is_not hk (.inr (by decide))) (P.colsL hk (ihx rest hr) hy)
  case co1 n hn => exact fun rest hr => P.const fun _ => by rw [par, List.cons_append, hd_cons, if_pos hn, List.tail_cons, List.nil_append, if_neg (is_false hr)]
  case co2 n d m hn hdd hm => exact fun rest hr => P.const fun _ => by simp only [par, List.cons_append, hd_cons, hn, List.tail_cons, List.nil_append, hdd, hm, if_true]
  case or1 ih => exact fun rest y hr hy => P.cond (ih rest _ hr.1 (P.conjE hr.2)) hy
  case or2 w v k a b ga hk gb iha ihb =>
    intro rest y hr hy
    simp only [List.append_assoc, List.cons_append]
    exact iha _ _ (FConj.key hk (by decide)) (P.condL hk (ihb rest _ hr.1 (P.conjE hr.2)) hy)
  case and1 ih => exact fun rest y hr hy => P.conj (ih rest hr) hy
  case and2 w v k a b ga hk gb iha ihb =>
    intro rest y hr hy
    simp only [List.append_assoc, List.cons_append]
    exact iha _ _ (FExpr.key' hk) (P.conjL hk (ihb rest hr) hy)
  case n1 w t g ih =>
    intro rest hr
    obtain ⟨N, h⟩ := ih rest hr
    have : (hd (w ++ rest)).is 1 [str "not"] = false := by
      rw [hd_append g.ne]; exact g.basicNot
    exact P.mk N fun n hn => by rw [par, if_neg (is_false this)]; exact h n hn
  case n2 k w t hk g ih =>
    intro rest hr
    obtain ⟨N, h⟩ := ih rest hr
    exact P.mk N fun n hn => by rw [List.cons_append, par, hd_cons, if_pos hk, List.tail_cons, h n hn]; rfl
  case b1 k o w c t hk ho g hc ih =>
    intro rest hr
    obtain ⟨N, h⟩ := C.sub ih ho hc rest
    simp only [List.append_assoc, List.cons_append, List.nil_append]
    exact P.mk N fun n hn => by rw [par, hd_cons, if_pos hk, List.tail_cons, h n hn]; rfl
  case b2 o w c t ho g hc ih =>
    intro rest hr
    obtain ⟨N, h⟩ := ih.cond' (rest := c :: rest) (FCond.shut hc)
    simp only [List.append_assoc, List.cons_append, List.nil_append]
    have e1 : o.is 1 [str "exists"] = false := is_not ho (.inl (by decide))
    exact P.mk N fun n hn => by rw [par, hd_cons, if_neg (is_false e1), if_pos ho, List.tail_cons, h n hn]; show (if _ then _ else _) = _; rw [hd_cons, if_pos hc]; rfl
  case b3 w a i n g hi hn ih =>
    intro rest hr
    simp only [List.append_assoc, List.cons_append, List.nil_append]
    obtain ⟨N, h⟩ := ih.expr' (rest := i :: n :: rest) (FExpr.key' hi)
    have e1 : n.is 1 [str "not"] = false := is_not hn (.inr (by decide))
    exact P.basic_e g rfl (P.mk N fun m hm => by simp only [par, h m hm, R.andThen, hd_cons, List.tail_cons, hi, e1, hn, if_true, if_false, Bool.false_eq_true]; rfl)
  case b4 w a i k n g hi hk hn ih =>
    intro rest hr
    simp only [List.append_assoc, List.cons_append, List.nil_append]
    obtain ⟨N, h⟩ := ih.expr' (rest := i :: k :: n :: rest) (FExpr.key' hi)
    exact P.basic_e g rfl (P.mk N fun m hm => by simp only [par, h m hm, R.andThen, hd_cons, List.tail_cons, hi, hk, hn, if_true]; rfl)
  case b5 w a i o v c q g hi ho gq hc ih ihq =>
    intro rest hr
    simp only [List.append_assoc, List.cons_append, List.nil_append]
    obtain ⟨N, h⟩ := ih.expr' (rest := i :: o :: (v ++ c :: rest)) (FExpr.key' hi)
    obtain ⟨M, h2⟩ := C.sub ihq ho hc rest
    have e1 : i.is 1 [str "is"] = false := is_not hi (.inr (by decide))
    have e2 : i.is 1 [str "not", str "in"] = true := is_sub hi (by decide)
    have e3 : i.is 1 [str "not"] = false := is_not hi (.inr (by decide))
    exact P.basic_e g rfl (P.mk (N + M) fun m hm => by simp only [par, h m (by omega), R.andThen, hd_cons, List.tail_cons, e1, e2, e3, hi, h2 m (by omega), if_true, if_false, Bool.false_eq_true]; rfl)
  case b6 w a k i o v c q g hk hi ho gq hc ih ihq =>
    intro rest hr
    simp only [List.append_assoc, List.cons_append, List.nil_append]
    obtain ⟨N, h⟩ := ih.expr' (rest := k :: i :: o :: (v ++ c :: rest)) (FExpr.key' hk)
    obtain ⟨M, h2⟩ := C.sub ihq ho hc rest
    have e1 : k.is 1 [str "is"] = false := is_not hk (.inr (by decide))
    have e2 : k.is 1 [str "not", str "in"] = true := is_sub hk (by decide)
    exact P.basic_e g rfl (P.mk (N + M) fun m hm => by simp only [par, h m (by omega), R.andThen, hd_cons, List.tail_cons, e1, e2, hk, hi, h2 m (by omega), if_true, if_false, Bool.false_eq_true]; rfl)
  case b7 w a s hh o v c q g hs hhh ho gq hc ih ihq =>
    intro rest hr
    simp only [List.append_assoc, List.cons_append, List.nil_append]
    obtain ⟨N, h⟩ := ih.expr' (rest := s :: hh :: o :: (v ++ c :: rest)) (FExpr.sign hs (by decide))
    obtain ⟨M, h2⟩ := C.sub ihq ho hc rest
    have e1 : s.is 1 [str "is"] = false := is_not hs (.inl (by decide))
    have e2 : s.is 1 [str "not", str "in"] = false := is_not hs (.inl (by decide))
    exact P.basic_e g rfl (P.mk (N + M) fun m hm => by simp only [par, h m (by omega), R.andThen, hd_cons, List.tail_cons, e1, e2, hs, hhh, h2 m (by omega), if_true, if_false, Bool.false_eq_true]; rfl)
  case b8 w a s v b g hs gb ih ihb =>
    intro rest hr
    simp only [List.append_assoc, List.cons_append]
    obtain ⟨N, h⟩ := ih.expr' (rest := s :: (v ++ rest)) (FExpr.sign hs (by decide))
    obtain ⟨M, h2⟩ := ihb.expr' hr
    have e1 : s.is 1 [str "is"] = false := is_not hs (.inl (by decide))
    have e2 : s.is 1 [str "not", str "in"] = false := is_not hs (.inl (by decide))
    have e3 : (hd (v ++ rest)).is 1 [str "any", str "all"] = false := by rw [hd_append gb.ne]; exact (G.first gb : First _).no (.inr ⟨rfl, by decide⟩)
    exact P.basic_e g rfl (P.mk (N + M) fun m hm => by simp only [par, h m (by omega), R.andThen, hd_cons, List.tail_cons, e1, e2, e3, hs, h2 m (by omega), if_true, if_false, Bool.false_eq_true]; rfl)
  case e1 ih => exact fun rest y hr hy => P.expr (ih rest _ hr.1 (P.termE hr.2)) hy
  case e2 w v k a b ga hk gb iha ihb =>
    intro rest y hr hy
    simp only [List.append_assoc, List.cons_append]
    exact iha _ _ ⟨is_not hk (.inr (by decide)), is_not hk (.inr (by decide))⟩ (P.exprL hk (ihb rest _ hr.1 (P.termE hr.2)) hy)
  case te1 ih => exact fun rest y hr hy => P.term (ih rest hr) hy
  case te2 w v k a b ga hk gb iha ihb =>
    intro rest y hr hy
    simp only [List.append_assoc, List.cons_append]
    exact iha _ _ (is_not hk (.inr (by decide))) (P.termL hk (ihb rest hr) hy)
  case f1 k w t hk g ih =>
    intro rest hr
    obtain ⟨N, h⟩ := ih rest hr
    exact P.mk N fun n hn => by rw [List.cons_append, par, hd_cons, if_pos hk, List.tail_cons, h n hn]; rfl
  case f2 n hn =>
    intro rest hr
    have e1 : n.is 5 [str "-"] = false := sort_not hn (by decide)
    exact P.const fun _ => by simp only [par, List.cons_append, hd_cons, e1, hn, if_true, if_false, Bool.false_eq_true]; rfl
  case f3 n hn =>
    intro rest hr
    have e1 : n.is 5 [str "-"] = false := sort_not hn (by decide)
    have e2 : ¬ (4 : Nat) = 3 := by decide
    exact P.const fun _ => by simp only [par, List.cons_append, hd_cons, e1, hn, e2, if_true, if_false, Bool.false_eq_true]; rfl
  case f4 n hn =>
    intro rest hr
    have e1 : n.is 5 [str "-"] = false := is_not hn (.inl (by decide))
    have e2 : ¬ n.sort = 3 := by rw [is_sort hn]; decide
    have e3 : ¬ n.sort = 4 := by rw [is_sort hn]; decide
    exact P.const fun _ => by simp only [par, List.cons_append, hd_cons, e1, e2, e3, hn, if_true, if_false, Bool.false_eq_true]; rfl
  case f5 n o s c hn ho hs hc =>
    intro rest hr
    have e1 : n.is 5 [str "-"] = false := is_not hn (.inl (by decide))
    have e2 : ¬ n.sort = 3 := by rw [is_sort hn]; decide
    have e3 : ¬ n.sort = 4 := by rw [is_sort hn]; decide
    have e4 : n.is 1 [str "null"] = false := is_not hn (.inr (by decide))
    have e5 : n.is 1 fns = true := is_sub hn (by decide)
    have e6 : n.text = str "count" := is_one hn
    exact P.const fun _ => by simp only [par, List.cons_append, hd_cons, List.tail_cons, e1, e2, e3, e4, e5, e6, ho, hs, hc, and_self, if_true, if_false, Bool.false_eq_true]; rfl
  case f6 n o w c e hn ho g hc ih =>
    intro rest hr
    simp only [List.append_assoc, List.cons_append, List.nil_append]
    obtain ⟨N, h⟩ := ih.expr' (rest := c :: rest) (FExpr.shut hc)
    have e1 : n.is 5 [str "-"] = false := is_not hn (.inl (by decide))
    have e2 : ¬ n.sort = 3 := by rw [is_sort hn]; decide
    have e3 : ¬ n.sort = 4 := by rw [is_sort hn]; decide
    have e4 : n.is 1 [str "null"] = false := is_not hn (.inr (by decide))
    have e5 : ¬ (n.text = str "count" ∧ (hd (w ++ c :: rest)).is 5 [str "*"] = true) := by
      rw [hd_append g.ne, (G.first g : First _).no (.inl ⟨rfl, by decide⟩)]; simp
    exact P.mk N fun m hm => by simp only [par, hd_cons, List.tail_cons, e1, e2, e3, e4, e5, hn, ho, hc, h m hm, R.andThen, if_true, if_false, Bool.false_eq_true]; rfl
  case f7 o w c e ho g hc ih =>
    intro rest hr
    simp only [List.append_assoc, List.cons_append, List.nil_append]
    obtain ⟨N, h⟩ := ih.expr' (rest := c :: rest) (FExpr.shut hc)
    have e1 : o.is 5 [str "-"] = false := is_not ho (.inr (by decide))
    have e2 : ¬ o.sort = 3 := by rw [is_sort ho]; decide
    have e3 : ¬ o.sort = 4 := by rw [is_sort ho]; decide
    have e4 : o.is 1 [str "null"] = false := is_not ho (.inl (by decide))
    have e5 : o.is 1 fns = false := is_not ho (.inl (by decide))
    exact P.mk N fun m hm => by simp only [par, hd_cons, List.tail_cons, e1, e2, e3, e4, e5, ho, hc, h m hm, R.andThen, if_true, if_false, Bool.false_eq_true]; rfl
  case f8 w t g ih =>
    intro rest hr
    obtain ⟨N, h⟩ := ih rest hr
    have e0 : (hd (w ++ rest)).sort = 2 := by rw [hd_append g.ne]; exact g.first
    have e1 : (hd (w ++ rest)).is 5 [str "-"] = false := sort_not e0 (by decide)
    have e2 : ¬ (hd (w ++ rest)).sort = 3 := by rw [e0]; decide
    have e3 : ¬ (hd (w ++ rest)).sort = 4 := by rw [e0]; decide
    have e4 : (hd (w ++ rest)).is 1 [str "null"] = false := sort_not e0 (by decide)
    have e5 : (hd (w ++ rest)).is 1 fns = false := sort_not e0 (by decide)
    have e6 : (hd (w ++ rest)).is 5 [str "("] = false := sort_not e0 (by decide)
    exact P.mk N fun n hn => by simp only [par, e1, e2, e3, e4, e5, e6, h n hn, if_false, Bool.false_eq_true]

/-- THE READER AND THE GRAMMAR AGREE. -/
theorem query_iff (ws : List W) (t : T) : P .query ws (some (t, [])) ↔ G .query ws t := by
  constructor
  · intro h
    obtain ⟨pre, e, g⟩ := h.sound
    rw [List.append_nil] at e
    subst e
    exact g
  · intro h
    have := (complete h).query' (rest := []) (by unfold FQuery FCore FCond FConj FExpr FTerm FFac; decide)
    simpa using this
/-- No words are two queries. -/
theorem query_uniq {ws : List W} {t t' : T} (h : G .query ws t) (h' : G .query ws t') : t = t' := by
  have := P.uniq ((query_iff _ _).2 h) ((query_iff _ _).2 h')
  simpa using this
end Bags
/- The words of a text; what a text is; how a query is printed. A plain text. -/
namespace Bags
def letter (c : UInt8) : Bool := c == 95 || (97 ≤ c && c ≤ 122) || (65 ≤ c && c ≤ 90)
def digit (c : UInt8) : Bool := 48 ≤ c && c ≤ 57
def alnum (c : UInt8) : Bool := letter c || digit c
def keywords : List Str := [str "select", str "distinct", str "from", str "where", str "group", str "by", str "having", str "as", str "union", str "intersect", str "except",
  str "all", str "any", str "and", str "or", str "not", str "exists", str "in", str "is", str "null", str "count", str "sum", str "min", str "max"]
def natOf (l : Str) : Nat := l.foldl (fun n c => 10 * n + (c.toNat - 48)) 0
/-- Behind a quote: the text, and how many bytes it takes with the quote that ends it. -/
def quo : Str → Option (Str × Nat)
  | [] => none
  | c :: r =>
    if c = 10 then none
    else if c = 39 then
      match r with
      | 39 :: r' => (quo r').map fun p => (39 :: p.1, p.2 + 2)
      | _ => some ([], 1)
    else (quo r).map fun p => (c :: p.1, p.2 + 1)
def two : List Str := [str "<>", str "<=", str ">="]
def ones : Str := str "(),.*+-/%=<>"
/-- The first word of a text that is not empty, if one begins it (blanks and remarks are none), and how many bytes it takes; none: none can begin here. -/
def lexOne (s : Str) : Option (Option W × Nat) :=
  match s with
  | [] => none
  | c :: r =>
    if c = 32 ∨ c = 9 ∨ c = 10 then some (none, 1)
    else if c = 45 ∧ r.head? = some 45 then some (none, (s.takeWhile (· != 10)).length)
    else if letter c then
      let t := s.takeWhile alnum
      some (some ⟨if keywords.contains t then 1 else 2, t, 0⟩, t.length)
    else if digit c then
      let t := s.takeWhile digit
      if natOf t < 2 ^ 63 then some (some ⟨3, [], natOf t⟩, t.length) else none
    else if c = 39 then (quo r).map fun p => (some ⟨4, p.1, 0⟩, p.2 + 1)
    else if two.contains (s.take 2) then some (some ⟨5, s.take 2, 0⟩, 2)
    else if ones.contains c then some (some ⟨5, [c], 0⟩, 1)
    else none
/-- The words of a text from its byte pos on, or the byte at which none begins. -/
def lex : Nat → Nat → Str → Nat ⊕ List W
  | 0, _, _ => .inr []
  | n+1, pos, s =>
    match s with
    | [] => .inr []
    | _ :: _ =>
      match lexOne s with
      | none => .inl pos
      | some (w, k) =>
        match lex n (pos + k) (s.drop k) with
        | .inl p => .inl p
        | .inr ws => .inr (w.toList ++ ws)
def words (s : Str) : Nat ⊕ List W := if s.length > 400 then .inl 400 else lex (s.length + 1) 0 s

def deepFrom : Int → List W → Bool
  | _, [] => false
  | n, w :: r =>
    let n' := if w.is 5 [str "("] then n + 1 else if w.is 5 [str ")"] then n - 1 else n
    decide (16 < n') || deepFrom n' r

/-- What a text is: a query, or the error and its place. -/
def Reading (s : Str) (y : (Nat × Nat) ⊕ T) : Prop :=
  match words s with
  | .inl p => y = .inl (2, p)
  | .inr ws => (∃ t, G .query ws t ∧ y = if deepFrom 0 ws then .inl (4, 0) else .inr t) ∨ ((∀ t, ¬ G .query ws t) ∧ y = .inl (3, 0))
theorem Reading.uniq {s : Str} {y y' : (Nat × Nat) ⊕ T} (h : Reading s y) (h' : Reading s y') : y = y' := by
  unfold Reading at h h'
  split at h
  · simp_all
  · rename_i ws hw
    simp only [hw] at h'
    rcases h with ⟨t, g, rfl⟩ | ⟨n, rfl⟩ <;> rcases h' with ⟨t', g', rfl⟩ | ⟨n', rfl⟩
    · rw [query_uniq g g']
    · exact absurd g (n' t)
    · exact absurd g' (n t')
    · rfl

/-! ### Printed -/
def dec (n : Nat) : Str := if h : n < 10 then [UInt8.ofNat (48 + n)] else dec (n / 10) ++ [UInt8.ofNat (48 + n % 10)]
termination_by n
decreasing_by omega
def decInt (n : Int) : Str := if n < 0 then 45 :: dec n.natAbs else dec n.natAbs
def quote (s : Str) : Str := 39 :: (s.flatMap fun c => if c = 39 then [39, 39] else [c]) ++ [39]
def named (s a : Str) : Str := if a = [] then s else s ++ str " as " ++ a
def T.print : T → Str
  | .none => []
  | .num n => decInt n
  | .text s => quote s
  | .null => str "null"
  | .col o n => if o = [] then n else o ++ str "." ++ n
  | .neg a => str "(-" ++ a.print ++ str ")"
  | .bin s a b => str "(" ++ a.print ++ str " " ++ s ++ str " " ++ b.print ++ str ")"
  | .agg fn .none => fn ++ str "(*)"
  | .agg fn a => fn ++ str "(" ++ a.print ++ str ")"
  | .junct s a b => str "(" ++ a.print ++ str " " ++ s ++ str " " ++ b.print ++ str ")"
  | .not a => str "(not " ++ a.print ++ str ")"
  | .exist q => str "exists (" ++ q.print ++ str ")"
  | .isnull a n => a.print ++ str " is " ++ (if n then str "not " else []) ++ str "null"
  | .isin a n q => a.print ++ str " " ++ (if n then str "not " else []) ++ str "in (" ++ q.print ++ str ")"
  | .cmp s a b => a.print ++ str " " ++ s ++ str " " ++ b.print
  | .quant s h a q => a.print ++ str " " ++ s ++ str " " ++ h ++ str " (" ++ q.print ++ str ")"
  | .comb s all a b => str "(" ++ a.print ++ str " " ++ s ++ (if all then str " all" else []) ++ str " " ++ b.print ++ str ")"
  | .sel d it f w g h => str "select " ++ (if d then str "distinct " else []) ++ (match it with | .none => str "*" | _ => it.print) ++ str " from " ++ f.print ++
      (match w with | .none => [] | _ => str " where " ++ w.print) ++ (match g with | .none => [] | _ => str " group by " ++ g.print) ++ (match h with | .none => [] | _ => str " having " ++ h.print)
  | .cons a .none => a.print
  | .cons a l => a.print ++ str ", " ++ l.print
  | .item e a => named e.print a
  | .src t a => named t a
end Bags
namespace Bags
theorem takeWhile_len (p : UInt8 → Bool) (s : Str) : (s.takeWhile p).length ≤ s.length := (List.takeWhile_sublist p).length_le
theorem quo_len : ∀ {s t : Str} {k : Nat}, quo s = some (t, k) → 1 ≤ k ∧ k ≤ s.length := by
  suffices h : ∀ n s t k, s.length ≤ n → quo s = some (t, k) → 1 ≤ k ∧ k ≤ s.length from fun {s t k} h' => h _ s t k (Nat.le_refl _) h'
  intro n
  induction n with
  | zero => intro s t k hn h; rw [List.eq_nil_of_length_eq_zero (by omega : s.length = 0)] at h; simp [quo] at h
  | succ n ih =>
    intro s t k hn h
    cases s with
    | nil => simp [quo] at h
    | cons c r =>
      unfold quo at h
      split at h
      · cases h
      · split at h
        · split at h
          · simp only [Option.map_eq_some_iff, Prod.mk.injEq] at h
            obtain ⟨p, hq, _, h2⟩ := h
            have := ih _ p.1 p.2 (by simp at hn; omega) hq
            simp only [List.length_cons] at hn ⊢
            omega
          · simp only [Option.some.injEq, Prod.mk.injEq] at h
            simp only [List.length_cons]; omega
        · cases hq : quo r with
          | none => simp [hq] at h
          | some p =>
            simp only [hq, Option.map_some, Option.some.injEq, Prod.mk.injEq] at h
            have := ih r p.1 p.2 (by simp at hn; omega) hq
            simp only [List.length_cons] at hn ⊢
            omega
theorem takeWhile_pos {p : UInt8 → Bool} {c : UInt8} {r : Str} (h : p c = true) : 1 ≤ ((c :: r).takeWhile p).length := by
  simp [h]
theorem lexOne_len {s : Str} {w : Option W} {k : Nat} (h : lexOne s = some (w, k)) : 1 ≤ k ∧ k ≤ s.length := by
  unfold lexOne at h
  split at h
  · cases h
  · rename_i c r
    have aux : ∀ {o : Option W} {n : Nat}, some (o, n) = some (w, k) → n = k := fun e => by injection e with e; injection e
    split at h
    · rw [← aux h]; simp
    · split at h
      · rename_i hc; rw [← aux h]; exact ⟨takeWhile_pos (by rw [hc.1]; decide), takeWhile_len _ _⟩
      · split at h
        · rename_i hc; rw [← aux h]; exact ⟨takeWhile_pos (by simp [alnum, hc]), takeWhile_len _ _⟩
        · split at h
          · rename_i hc
            dsimp only at h
            split at h
            · rw [← aux h]; exact ⟨takeWhile_pos hc, takeWhile_len _ _⟩
            · cases h
          · split at h
            · cases hq : quo r with
              | none => simp [hq] at h
              | some p =>
                simp only [hq, Option.map_some] at h
                rw [← aux h]
                have := quo_len (t := p.1) (k := p.2) hq
                simp only [List.length_cons]; omega
            · split at h
              · rename_i hc
                rw [← aux h]
                refine ⟨by omega, ?_⟩
                cases r with
                | nil =>
                  exfalso
                  have h2 : ∀ t ∈ two, t.length = 2 := by decide
                  have := h2 _ (List.contains_iff_mem.1 hc)
                  simp at this
                | cons d r => simp
              · split at h
                · rw [← aux h]; simp
                · cases h
theorem lex_fuel : ∀ (n m pos : Nat) (s : Str), s.length < n → s.length < m → lex n pos s = lex m pos s
  | 0, _, _, _, h, _ => by omega
  | _+1, 0, _, _, _, h => by omega
  | n+1, m+1, pos, s, h, h' => by
    cases s with
    | nil => simp [lex]
    | cons c r =>
      simp only [lex]
      cases hl : lexOne (c :: r) with
      | none => rfl
      | some p =>
        obtain ⟨w, k⟩ := p
        have := lexOne_len hl
        simp only
        rw [lex_fuel n m (pos + k) _ (by simp only [List.length_drop, List.length_cons] at *; omega) (by simp only [List.length_drop, List.length_cons] at *; omega)]
/-- Words ahead of what comes. -/
def ahead (l : List W) : Nat ⊕ List W → Nat ⊕ List W
  | .inl p => .inl p
  | .inr ws => .inr (l ++ ws)
theorem ahead_nil (x : Nat ⊕ List W) : ahead [] x = x := by cases x <;> rfl
theorem ahead_ahead (l m : List W) (x : Nat ⊕ List W) : ahead l (ahead m x) = ahead (l ++ m) x := by cases x <;> simp [ahead]
/-- The words from the byte k on. -/
def lexAt (s : Str) (k : Nat) : Nat ⊕ List W := lex (s.length + 1) k (s.drop k)
theorem lexAt_end {s : Str} {k : Nat} (h : s.length ≤ k) : lexAt s k = .inr [] := by
  unfold lexAt; rw [List.drop_of_length_le h]; simp [lex]
theorem lexAt_no {s : Str} {k : Nat} (hk : k < s.length) (h : lexOne (s.drop k) = none) : lexAt s k = .inl k := by
  unfold lexAt
  cases hd : s.drop k with
  | nil => have := congrArg List.length hd; simp at this; omega
  | cons c r => rw [hd] at h; simp only [lex, h]
theorem lexAt_step {s : Str} {k j : Nat} {w : Option W} (hk : k < s.length) (h : lexOne (s.drop k) = some (w, j)) : lexAt s k = ahead w.toList (lexAt s (k + j)) := by
  have hj := lexOne_len h
  have e : (s.drop k).drop j = s.drop (k + j) := by rw [List.drop_drop]
  unfold lexAt
  cases hd : s.drop k with
  | nil => have := congrArg List.length hd; simp at this; omega
  | cons c r =>
    rw [hd] at h e
    conv => lhs; unfold lex
    simp only [h, e]
    rw [lex_fuel s.length (s.length + 1) (k + j) _ (by simp only [List.length_drop] at *; omega) (by simp only [List.length_drop] at *; omega)]
    cases lex (s.length + 1) (k + j) (s.drop (k + j)) <;> rfl
theorem words_at (s : Str) (h : ¬ 400 < s.length) : words s = lexAt s 0 := by
  unfold words lexAt; rw [if_neg h]; rfl
end Bags
/- How many words a text has, and how long they are. A plain text. -/
namespace Bags
theorem quo_text : ∀ {s t : Str} {k : Nat}, quo s = some (t, k) → t.length ≤ s.length := by
  suffices h : ∀ n s t k, s.length ≤ n → quo s = some (t, k) → t.length ≤ s.length from fun {s t k} h' => h _ s t k (Nat.le_refl _) h'
  intro n
  induction n with
  | zero => intro s t k hn h; rw [List.eq_nil_of_length_eq_zero (by omega : s.length = 0)] at h; simp [quo] at h
  | succ n ih =>
    intro s t k hn h
    cases s with
    | nil => simp [quo] at h
    | cons c r =>
      unfold quo at h
      split at h
      · cases h
      · split at h
        · split at h
          · rename_i r'
            cases hq : quo r' with
            | none => rw [hq] at h; simp at h
            | some p =>
              rw [hq] at h
              simp at h
              have := ih r' p.1 p.2 (by simp at hn ⊢; omega) hq
              obtain ⟨rfl, _⟩ := h
              simp; omega
          · simp at h; obtain ⟨rfl, _⟩ := h; simp
        · cases hq : quo r with
          | none => rw [hq] at h; simp at h
          | some p =>
            rw [hq] at h
            simp at h
            have := ih r p.1 p.2 (by simp at hn ⊢; omega) hq
            obtain ⟨rfl, _⟩ := h
            simp; omega
theorem lexOne_text {s : Str} {w : W} {k : Nat} (h : lexOne s = some (some w, k)) : w.text.length ≤ s.length := by
  unfold lexOne at h
  cases s with
  | nil => simp at h
  | cons c r =>
    simp only at h
    split at h
    · simp at h
    · split at h
      · simp at h
      · split at h
        · simp at h; obtain ⟨rfl, _⟩ := h; exact takeWhile_len _ _
        · split at h
          · split at h
            · simp at h; obtain ⟨rfl, _⟩ := h; simp
            · simp at h
          · split at h
            · cases hq : quo r with
              | none => rw [hq] at h; simp at h
              | some p =>
                rw [hq] at h
                simp at h
                have := quo_text (s := r) (t := p.1) (k := p.2) hq
                obtain ⟨rfl, _⟩ := h
                simp; omega
            · split at h
              · simp at h; obtain ⟨rfl, _⟩ := h; simp; omega
              · split at h
                · simp at h; obtain ⟨rfl, _⟩ := h; simp
                · simp at h
theorem lex_bound : ∀ (n pos : Nat) (s : Str) (ws : List W), lex n pos s = .inr ws → ws.length ≤ s.length ∧ ∀ w ∈ ws, w.text.length ≤ s.length := by
  intro n
  induction n with
  | zero => intro pos s ws h; simp [lex] at h; subst h; simp
  | succ n ih =>
    intro pos s ws h
    cases s with
    | nil => simp [lex] at h; subst h; simp
    | cons c r =>
      simp only [lex] at h
      cases hl : lexOne (c :: r) with
      | none => rw [hl] at h; simp at h
      | some p =>
        obtain ⟨w, k⟩ := p
        have hk := lexOne_len hl
        rw [hl] at h
        simp only at h
        cases hx : lex n (pos + k) ((c :: r).drop k) with
        | inl p => rw [hx] at h; simp at h
        | inr ws' =>
          rw [hx] at h
          simp at h
          obtain ⟨h1, h2⟩ := ih _ _ _ hx
          have hd : ((c :: r).drop k).length = (c :: r).length - k := by simp
          subst h
          cases w with
          | none => exact ⟨by simp only [Option.toList_none, List.nil_append]; omega, fun w hw => by have := h2 w (by simpa using hw); omega⟩
          | some w0 =>
            refine ⟨by simp only [Option.toList_some, List.cons_append, List.nil_append]; rw [List.length_cons (as := ws')]; omega, fun w hw => ?_⟩
            simp at hw
            rcases hw with rfl | hw
            · exact lexOne_text hl
            · have := h2 w hw; omega
theorem words_bound {s : Str} {ws : List W} (h : words s = .inr ws) : ws.length ≤ 400 ∧ ∀ w ∈ ws, w.text.length ≤ 400 := by
  unfold words at h
  split at h
  · cases h
  · obtain ⟨h1, h2⟩ := lex_bound _ _ _ _ h
    exact ⟨by omega, fun w hw => by have := h2 w hw; omega⟩
theorem hd_bound {ws : List W} (h : ∀ w ∈ ws, w.text.length ≤ 400) (j : Nat) : (hd (ws.drop j)).text.length ≤ 1000 := by
  unfold hd
  cases hw : ws.drop j with
  | nil => simp [endW]
  | cons w r =>
    have := h w (List.mem_of_mem_drop (i := j) (by rw [hw]; simp))
    simp; omega
theorem lexOne_sort {s : Str} {w : W} {k : Nat} (h : lexOne s = some (some w, k)) : w.sort ≠ 0 := by
  unfold lexOne at h
  cases s with
  | nil => simp at h
  | cons c r =>
    simp only at h
    split at h
    · simp at h
    · split at h
      · simp at h
      · split at h
        · simp at h; obtain ⟨rfl, _⟩ := h; simp only; split <;> decide
        · split at h
          · split at h
            · simp at h; obtain ⟨rfl, _⟩ := h; simp
            · simp at h
          · split at h
            · cases hq : quo r with
              | none => rw [hq] at h; simp at h
              | some p => rw [hq] at h; simp at h; obtain ⟨rfl, _⟩ := h; simp
            · split at h
              · simp at h; obtain ⟨rfl, _⟩ := h; simp
              · split at h
                · simp at h; obtain ⟨rfl, _⟩ := h; simp
                · simp at h
theorem lex_sorts : ∀ (n pos : Nat) (s : Str) (ws : List W), lex n pos s = .inr ws → ∀ w ∈ ws, w.sort ≠ 0 := by
  intro n
  induction n with
  | zero => intro pos s ws h; simp [lex] at h; subst h; simp
  | succ n ih =>
    intro pos s ws h
    cases s with
    | nil => simp [lex] at h; subst h; simp
    | cons c r =>
      simp only [lex] at h
      cases hl : lexOne (c :: r) with
      | none => rw [hl] at h; simp at h
      | some p =>
        obtain ⟨w, k⟩ := p
        rw [hl] at h
        simp only at h
        cases hx : lex n (pos + k) ((c :: r).drop k) with
        | inl p => rw [hx] at h; simp at h
        | inr ws' =>
          rw [hx] at h
          simp at h
          have h2 := ih _ _ _ hx
          subst h
          cases w with
          | none => intro w hw; exact h2 w (by simpa using hw)
          | some w0 =>
            intro w hw
            simp at hw
            rcases hw with rfl | hw
            · exact lexOne_sort hl
            · exact h2 w hw
theorem words_sorts {s : Str} {ws : List W} (h : words s = .inr ws) : ∀ w ∈ ws, w.sort ≠ 0 := by
  unfold words at h
  split at h
  · cases h
  · exact lex_sorts _ _ _ _ h
theorem hd_end {ws : List W} (h : ∀ w ∈ ws, w.sort ≠ 0) {j : Nat} (hj : (hd (ws.drop j)).sort = 0) : ws.drop j = [] := by
  cases hw : ws.drop j with
  | nil => rfl
  | cons w r =>
    exact absurd (by rw [hw] at hj; exact hj) (h w (List.mem_of_mem_drop (i := j) (by rw [hw]; simp)))
/-- One word of the count of brackets. -/
theorem deep_step {ws : List W} {k : Nat} {c : Int} (hk : k ≤ ws.length) (hc : c ≤ 16) :
    deepFrom c (ws.drop k) = (decide (16 < (if (hd (ws.drop k)).is 5 [str "("] then c + 1 else if (hd (ws.drop k)).is 5 [str ")"] then c - 1 else c)) ||
      deepFrom (if (hd (ws.drop k)).is 5 [str "("] then c + 1 else if (hd (ws.drop k)).is 5 [str ")"] then c - 1 else c) (ws.drop (k + 1))) := by
  by_cases h : k < ws.length
  · rw [List.drop_eq_getElem_cons h]
    rfl
  · rw [List.drop_of_length_le (by omega), List.drop_of_length_le (by omega)]
    have : (hd []).is 5 [str "("] = false := rfl
    have : (hd []).is 5 [str ")"] = false := rfl
    simp [*, deepFrom]
end Bags
/- Which trees are printed, and how long what is printed may be. A plain text. -/
namespace Bags
theorem lexOne_num {s : Str} {w : W} {k : Nat} (h : lexOne s = some (some w, k)) : 0 ≤ w.num ∧ w.num < 9223372036854775808 := by
  unfold lexOne at h
  cases s with
  | nil => simp at h
  | cons c r =>
    simp only at h
    split at h
    · simp at h
    · split at h
      · simp at h
      · split at h
        · simp at h; obtain ⟨rfl, _⟩ := h; simp
        · split at h
          · split at h
            · rename_i hn; simp at h; obtain ⟨rfl, _⟩ := h; simp only; simp at hn; omega
            · simp at h
          · split at h
            · cases hq : quo r with
              | none => rw [hq] at h; simp at h
              | some p => rw [hq] at h; simp at h; obtain ⟨rfl, _⟩ := h; simp
            · split at h
              · simp at h; obtain ⟨rfl, _⟩ := h; simp
              · split at h
                · simp at h; obtain ⟨rfl, _⟩ := h; simp
                · simp at h
theorem lex_nums : ∀ (n pos : Nat) (s : Str) (ws : List W), lex n pos s = .inr ws → ∀ w ∈ ws, 0 ≤ w.num ∧ w.num < 9223372036854775808 := by
  intro n
  induction n with
  | zero => intro pos s ws h; simp [lex] at h; subst h; simp
  | succ n ih =>
    intro pos s ws h
    cases s with
    | nil => simp [lex] at h; subst h; simp
    | cons c r =>
      simp only [lex] at h
      cases hl : lexOne (c :: r) with
      | none => rw [hl] at h; simp at h
      | some p =>
        obtain ⟨w, k⟩ := p
        rw [hl] at h
        simp only at h
        cases hx : lex n (pos + k) ((c :: r).drop k) with
        | inl p => rw [hx] at h; simp at h
        | inr ws' =>
          rw [hx] at h
          simp at h
          have h2 := ih _ _ _ hx
          subst h
          cases w with
          | none => intro w hw; exact h2 w (by simpa using hw)
          | some w0 =>
            intro w hw
            simp at hw
            rcases hw with rfl | hw
            · exact lexOne_num hl
            · exact h2 w hw
theorem words_nums {s : Str} {ws : List W} (h : words s = .inr ws) : ∀ w ∈ ws, 0 ≤ w.num ∧ w.num < 9223372036854775808 := by
  unfold words at h
  split at h
  · cases h
  · exact lex_nums _ _ _ _ h

/-- A tree that is printed: 0 a part, 1 items, 2 sources, 3 columns (none, or a list of them), 4 an item, 5 a source, 6 a column. -/
def Good : T → Nat → Prop
  | .none, k => k = 1 ∨ k = 2 ∨ k = 3
  | .num n, k => k = 0 ∧ -9223372036854775808 ≤ n ∧ n ≤ 9223372036854775807
  | .text _, k => k = 0
  | .null, k => k = 0
  | .col _ _, k => k = 0 ∨ k = 6
  | .neg a, k => k = 0 ∧ Good a 0
  | .bin _ a b, k => k = 0 ∧ Good a 0 ∧ Good b 0
  | .agg _ a, k => k = 0 ∧ (a = .none ∨ Good a 0)
  | .junct _ a b, k => k = 0 ∧ Good a 0 ∧ Good b 0
  | .not a, k => k = 0 ∧ Good a 0
  | .exist a, k => k = 0 ∧ Good a 0
  | .isnull a _, k => k = 0 ∧ Good a 0
  | .isin a _ b, k => k = 0 ∧ Good a 0 ∧ Good b 0
  | .cmp _ a b, k => k = 0 ∧ Good a 0 ∧ Good b 0
  | .quant _ _ a b, k => k = 0 ∧ Good a 0 ∧ Good b 0
  | .comb _ _ a b, k => k = 0 ∧ Good a 0 ∧ Good b 0
  | .sel _ it f w g h, k => k = 0 ∧ Good it 1 ∧ Good f 2 ∧ (w = .none ∨ Good w 0) ∧ Good g 3 ∧ (h = .none ∨ Good h 0)
  | .cons a b, k => (k = 1 ∧ Good a 4 ∧ Good b 1) ∨ (k = 2 ∧ Good a 5 ∧ Good b 2) ∨ (k = 3 ∧ Good a 6 ∧ Good b 3)
  | .item e _, k => k = 4 ∧ Good e 0
  | .src _ _, k => k = 5

def sz : T → Nat
  | .none => 0
  | .num _ => 60
  | .text s => 2 * s.length + 60
  | .null => 60
  | .col o n => o.length + n.length + 60
  | .neg a => sz a + 60
  | .bin s a b => s.length + sz a + sz b + 60
  | .agg s a => s.length + sz a + 60
  | .junct s a b => s.length + sz a + sz b + 60
  | .not a => sz a + 60
  | .exist a => sz a + 60
  | .isnull a _ => sz a + 60
  | .isin a _ b => sz a + sz b + 60
  | .cmp s a b => s.length + sz a + sz b + 60
  | .quant s h a b => s.length + h.length + sz a + sz b + 60
  | .comb s _ a b => s.length + sz a + sz b + 60
  | .sel _ it f w g h => sz it + sz f + sz w + sz g + sz h + 100
  | .cons a b => sz a + sz b + 2
  | .item e s => sz e + s.length + 4
  | .src t s => t.length + s.length + 4

theorem sz_snoc (x : T) : ∀ l : T, sz (l.snoc x) ≤ sz l + sz x + 2 := by
  intro l
  induction l with
  | cons a l _ ih => simp only [T.snoc, sz]; omega
  | _ => simp only [T.snoc, sz]; omega
theorem Good.snoc1 {x : T} (hx : Good x 4) : ∀ {l : T}, Good l 1 → Good (l.snoc x) 1 := by
  intro l
  induction l with
  | cons a l _ ih =>
    intro h
    rcases h with ⟨_, h1, h2⟩ | ⟨h, _⟩ | ⟨h, _⟩
    · exact .inl ⟨rfl, h1, ih h2⟩
    · omega
    · omega
  | none => intro h; exact .inl ⟨rfl, hx, .inl rfl⟩
  | _ => intro h; simp [Good] at h
theorem Good.snoc2 {x : T} (hx : Good x 5) : ∀ {l : T}, Good l 2 → Good (l.snoc x) 2 := by
  intro l
  induction l with
  | cons a l _ ih =>
    intro h
    rcases h with ⟨h, _⟩ | ⟨_, h1, h2⟩ | ⟨h, _⟩
    · omega
    · exact .inr (.inl ⟨rfl, h1, ih h2⟩)
    · omega
  | none => intro h; exact .inr (.inl ⟨rfl, hx, .inr (.inl rfl)⟩)
  | _ => intro h; simp [Good] at h
theorem Good.snoc3 {x : T} (hx : Good x 6) : ∀ {l : T}, Good l 3 → Good (l.snoc x) 3 := by
  intro l
  induction l with
  | cons a l _ ih =>
    intro h
    rcases h with ⟨h, _⟩ | ⟨h, _⟩ | ⟨_, h1, h2⟩
    · omega
    · omega
    · exact .inr (.inr ⟨rfl, h1, ih h2⟩)
  | none => intro h; exact .inr (.inr ⟨rfl, hx, .inr (.inr rfl)⟩)
  | _ => intro h; simp [Good] at h

/-- How much a stretch of words may print. -/
def Mw (ws : List W) : Nat := (ws.map fun x => 300 + 2 * x.text.length).sum
theorem Mw_app (a b : List W) : Mw (a ++ b) = Mw a + Mw b := by simp [Mw]
theorem Mw_cons (a : W) (b : List W) : Mw (a :: b) = 300 + 2 * a.text.length + Mw b := by simp [Mw]
theorem Mw_nil : Mw [] = 0 := rfl
def kindOf : K → Nat
  | .items => 1 | .item => 4 | .sources => 2 | .source => 5 | .cols => 3 | .col => 6 | _ => 0
def slack : K → Nat
  | .items => 20 | .item => 10 | .sources => 20 | .source => 10 | .cols => 20 | .tail => 200 | .after => 200 | .grouped => 200 | _ => 0
theorem good_G {k : K} {ws : List W} {t : T} (h : G k ws t) : (∀ w ∈ ws, 0 ≤ w.num ∧ w.num < 9223372036854775808) → Good t (kindOf k) ∧ sz t ≤ Mw ws + slack k := by
  induction h with
  | q1 h ih | or1 h ih | and1 h ih | n1 h ih | e1 h ih | te1 h ih => exact fun hn => ih hn
  | f8 h ih => intro hn; obtain ⟨h1, h2⟩ := ih hn; cases h <;> exact ⟨.inl rfl, h2⟩
  | q2 _ _ _ iha ihb | or2 _ _ _ iha ihb | and2 _ _ _ iha ihb | e2 _ _ _ iha ihb | te2 _ _ _ iha ihb | b8 _ _ _ iha ihb =>
    intro hn
    obtain ⟨a1, a2⟩ := iha fun x hx => hn x (by simp [hx])
    obtain ⟨b1, b2⟩ := ihb fun x hx => hn x (by simp [hx])
    refine ⟨⟨rfl, a1, b1⟩, ?_⟩
    simp only [sz, Mw_app, Mw_cons, slack] at *; omega
  | q3 _ _ _ _ iha ihb | b5 _ _ _ _ _ iha ihb | b6 _ _ _ _ _ _ iha ihb | b7 _ _ _ _ _ _ iha ihb =>
    intro hn
    obtain ⟨a1, a2⟩ := iha fun x hx => hn x (by simp [hx])
    obtain ⟨b1, b2⟩ := ihb fun x hx => hn x (by simp [hx])
    refine ⟨⟨rfl, a1, b1⟩, ?_⟩
    simp only [sz, Mw_app, Mw_cons, slack] at *; omega
  | c1 _ _ _ ih | b2 _ _ _ ih | f7 _ _ _ ih =>
    intro hn
    obtain ⟨a1, a2⟩ := ih fun x hx => hn x (by simp [hx])
    refine ⟨a1, ?_⟩
    simp only [Mw_app, Mw_cons, slack] at *; omega
  | n2 _ _ ih | f1 _ _ ih | b1 _ _ _ _ ih | b3 _ _ _ ih | b4 _ _ _ _ ih =>
    intro hn
    obtain ⟨a1, a2⟩ := ih fun x hx => hn x (by simp [hx])
    refine ⟨⟨rfl, a1⟩, ?_⟩
    simp only [sz, Mw_app, Mw_cons, slack] at *; omega
  | f6 _ _ _ _ ih =>
    intro hn
    obtain ⟨a1, a2⟩ := ih fun x hx => hn x (by simp [hx])
    refine ⟨⟨rfl, .inr a1⟩, ?_⟩
    simp only [sz, Mw_app, Mw_cons, slack] at *; omega
  | f2 h => intro hn; have := hn _ (List.mem_singleton.2 rfl); exact ⟨⟨rfl, by omega, by omega⟩, by simp only [sz, Mw_cons, Mw_nil, slack]; omega⟩
  | f3 h => intro hn; exact ⟨rfl, by simp only [sz, Mw_cons, Mw_nil, slack]; omega⟩
  | f4 h => intro hn; exact ⟨rfl, by simp only [sz, Mw_cons, Mw_nil, slack]; omega⟩
  | f5 => intro hn; exact ⟨⟨rfl, .inl rfl⟩, by simp only [sz, Mw_cons, Mw_nil, slack]; omega⟩
  | co1 => intro hn; exact ⟨.inr rfl, by simp only [sz, Mw_cons, Mw_nil, slack, List.length_nil]; omega⟩
  | co2 => intro hn; exact ⟨.inr rfl, by simp only [sz, Mw_cons, Mw_nil, slack]; omega⟩
  | s1 => intro hn; exact ⟨rfl, by simp only [sz, Mw_cons, Mw_nil, slack, List.length_nil]; omega⟩
  | s2 => intro hn; exact ⟨rfl, by simp only [sz, Mw_cons, Mw_nil, slack]; omega⟩
  | i1 _ ih =>
    intro hn
    obtain ⟨a1, a2⟩ := ih hn
    exact ⟨⟨rfl, a1⟩, by simp only [sz, slack, List.length_nil] at *; omega⟩
  | i2 _ _ _ ih =>
    intro hn
    obtain ⟨a1, a2⟩ := ih fun x hx => hn x (by simp [hx])
    exact ⟨⟨rfl, a1⟩, by simp only [sz, Mw_app, Mw_cons, Mw_nil, slack] at *; omega⟩
  | is1 _ ih => intro hn; obtain ⟨a1, a2⟩ := ih hn; exact ⟨.inl ⟨rfl, a1, .inl rfl⟩, by simp only [sz, slack] at *; omega⟩
  | ss1 _ ih => intro hn; obtain ⟨a1, a2⟩ := ih hn; exact ⟨.inr (.inl ⟨rfl, a1, .inr (.inl rfl)⟩), by simp only [sz, slack] at *; omega⟩
  | cs1 _ ih => intro hn; obtain ⟨a1, a2⟩ := ih hn; exact ⟨.inr (.inr ⟨rfl, a1, .inr (.inr rfl)⟩), by simp only [sz, slack] at *; omega⟩
  | is2 _ _ _ iha ihb =>
    intro hn
    obtain ⟨a1, a2⟩ := iha fun x hx => hn x (by simp [hx])
    obtain ⟨b1, b2⟩ := ihb fun x hx => hn x (by simp [hx])
    refine ⟨Good.snoc1 b1 a1, Nat.le_trans (sz_snoc _ _) ?_⟩
    simp only [Mw_app, Mw_cons, slack] at *; omega
  | ss2 _ _ _ iha ihb =>
    intro hn
    obtain ⟨a1, a2⟩ := iha fun x hx => hn x (by simp [hx])
    obtain ⟨b1, b2⟩ := ihb fun x hx => hn x (by simp [hx])
    refine ⟨Good.snoc2 b1 a1, Nat.le_trans (sz_snoc _ _) ?_⟩
    simp only [Mw_app, Mw_cons, slack] at *; omega
  | cs2 _ _ _ iha ihb =>
    intro hn
    obtain ⟨a1, a2⟩ := iha fun x hx => hn x (by simp [hx])
    obtain ⟨b1, b2⟩ := ihb fun x hx => hn x (by simp [hx])
    refine ⟨Good.snoc3 b1 a1, Nat.le_trans (sz_snoc _ _) ?_⟩
    simp only [Mw_app, Mw_cons, slack] at *; omega
  | t1 _ ih =>
    intro hn
    obtain ⟨a1, a2⟩ := ih hn
    exact ⟨⟨rfl, .inl rfl, a1, .inl rfl, .inr (.inr rfl), .inl rfl⟩, by simp only [sz, slack] at *; omega⟩
  | a1 _ ih =>
    intro hn
    obtain ⟨a1, a2⟩ := ih hn
    exact ⟨⟨rfl, .inl rfl, .inr (.inl rfl), .inr a1, .inr (.inr rfl), .inl rfl⟩, by simp only [sz, slack] at *; omega⟩
  | g1 _ ih =>
    intro hn
    obtain ⟨a1, a2⟩ := ih hn
    exact ⟨⟨rfl, .inl rfl, .inr (.inl rfl), .inl rfl, a1, .inl rfl⟩, by simp only [sz, slack] at *; omega⟩
  | g2 _ _ _ iha ihb =>
    intro hn
    obtain ⟨a1, a2⟩ := iha fun x hx => hn x (by simp [hx])
    obtain ⟨b1, b2⟩ := ihb fun x hx => hn x (by simp [hx])
    refine ⟨⟨rfl, .inl rfl, .inr (.inl rfl), .inl rfl, a1, .inr b1⟩, ?_⟩
    simp only [sz, Mw_app, Mw_cons, slack] at *; omega
  | t2 _ _ _ iha ihb =>
    intro hn
    obtain ⟨a1, a2⟩ := iha fun x hx => hn x (by simp [hx])
    obtain ⟨⟨_, _, _, b3, b4, b5⟩, b2⟩ := ihb fun x hx => hn x (by simp [hx])
    refine ⟨⟨rfl, .inl rfl, a1, b3, b4, b5⟩, ?_⟩
    simp only [sz, Mw_app, Mw_cons, slack] at *; omega
  | t3 _ _ _ _ iha ihb =>
    intro hn
    obtain ⟨a1, a2⟩ := iha fun x hx => hn x (by simp [hx])
    obtain ⟨⟨_, _, _, b3, b4, b5⟩, b2⟩ := ihb fun x hx => hn x (by simp [hx])
    refine ⟨⟨rfl, .inl rfl, a1, .inl rfl, b4, b5⟩, ?_⟩
    simp only [sz, Mw_app, Mw_cons, slack] at *; omega
  | a2 _ _ _ _ iha ihb =>
    intro hn
    obtain ⟨a1, a2⟩ := iha fun x hx => hn x (by simp [hx])
    obtain ⟨⟨_, _, _, b3, b4, b5⟩, b2⟩ := ihb fun x hx => hn x (by simp [hx])
    refine ⟨⟨rfl, .inl rfl, .inr (.inl rfl), .inr a1, b4, b5⟩, ?_⟩
    simp only [sz, Mw_app, Mw_cons, slack] at *; omega
  | c2 _ _ _ _ iha ihb | c3 _ _ _ _ _ iha ihb =>
    intro hn
    obtain ⟨a1, a2⟩ := iha fun x hx => hn x (by simp [hx])
    obtain ⟨⟨_, _, b6, b3, b4, b5⟩, b2⟩ := ihb fun x hx => hn x (by simp [hx])
    refine ⟨⟨rfl, a1, b6, b3, b4, b5⟩, ?_⟩
    simp only [sz, Mw_app, Mw_cons, slack] at *; omega
  | c4 _ _ _ _ ih | c5 _ _ _ _ _ ih =>
    intro hn
    obtain ⟨⟨_, _, b6, b3, b4, b5⟩, b2⟩ := ih fun x hx => hn x (by simp [hx])
    refine ⟨⟨rfl, .inl rfl, b6, b3, b4, b5⟩, ?_⟩
    simp only [sz, Mw_cons, slack] at *; omega

theorem Mw_le {ws : List W} (h : ∀ w ∈ ws, w.text.length ≤ 400) : Mw ws ≤ 1100 * ws.length := by
  induction ws with
  | nil => simp [Mw]
  | cons a l ih =>
    have h1 := ih fun x hx => h x (by simp [hx])
    have h2 := h a (by simp)
    rw [Mw_cons, List.length_cons]; omega

theorem dec_len : ∀ (k n : Nat), n < 10 ^ (k + 1) → (dec n).length ≤ k + 1
  | 0, n, h => by rw [dec, dif_pos (by simpa using h)]; simp
  | k + 1, n, h => by
    rw [dec]
    split
    · simp
    · have := dec_len k (n / 10) (by rw [Nat.div_lt_iff_lt_mul (by decide)]; rw [Nat.pow_succ] at h; exact h)
      simp; omega
theorem decInt_len {n : Int} (h0 : -9223372036854775808 ≤ n) (h1 : n ≤ 9223372036854775807) : (decInt n).length ≤ 60 := by
  have h := dec_len 29 n.natAbs (by have : (10 : Nat) ^ (29 + 1) = 1000000000000000000000000000000 := by decide
                                    omega)
  unfold decInt
  split <;> simp <;> omega
theorem quote_len (s : Str) : (quote s).length ≤ 2 * s.length + 60 := by
  have : (s.flatMap fun c => if c = 39 then [39, 39] else [c]).length ≤ 2 * s.length := by
    induction s with
    | nil => simp
    | cons a l ih =>
      have h : (if a = 39 then [39, 39] else [a] : Str).length ≤ 2 := by split <;> simp
      rw [List.flatMap_cons, List.length_append, List.length_cons]; omega
  simp only [quote, List.length_append, List.length_cons, List.length_nil]; omega
theorem named_len (s a : Str) : (named s a).length ≤ s.length + a.length + 4 := by
  unfold named
  split
  · omega
  · simp only [List.length_append, show (str " as ").length = 4 from by decide]; omega
/-- A part that may be absent, with what stands before it. -/
def optT (pre : Str) : T → Str
  | .none => []
  | t => pre ++ t.print
def starT : T → Str
  | .none => str "*"
  | t => t.print
theorem print_sel (d : Bool) (it f w g h : T) : (T.sel d it f w g h).print =
    str "select " ++ (if d then str "distinct " else []) ++ starT it ++ str " from " ++ f.print ++ optT (str " where ") w ++ optT (str " group by ") g ++ optT (str " having ") h := by
  simp only [T.print]
  congr 1
  · congr 1
    · congr 1
      · congr 1
        congr 1
        congr 1
        cases it <;> rfl
      · cases w <;> rfl
    · cases g <;> rfl
  · cases h <;> rfl
theorem alt_it (t : T) : (starT t).length ≤ t.print.length + 1 := by
  unfold starT
  split
  · exact Nat.le_add_left _ _
  · exact Nat.le_add_right _ _
theorem alt_opt (p : Str) (t : T) : (optT p t).length ≤ t.print.length + p.length := by
  unfold optT
  split
  · exact Nat.zero_le _
  · rw [List.length_append, Nat.add_comm]; exact Nat.le_refl _
theorem print_len : ∀ (t : T) (k : Nat), Good t k → t.print.length ≤ sz t := by
  intro t
  induction t with
  | none => intro k h; simp [T.print]
  | num n => intro k h; exact decInt_len h.2.1 h.2.2
  | text s => intro k h; exact quote_len s
  | null => intro k h; decide
  | col o n =>
    intro k h
    simp only [T.print, sz]
    split
    · omega
    · simp only [List.length_append, show (str ".").length = 1 from by decide]; omega
  | neg a ih | not a ih | exist a ih =>
    intro k h
    have := ih 0 h.2
    simp only [T.print, sz, List.length_append, show (str "(-").length = 2 from by decide, show (str ")").length = 1 from by decide, show (str "(not ").length = 5 from by decide, show (str "exists (").length = 8 from by decide]; omega
  | isnull a n ih =>
    intro k h
    have := ih 0 h.2
    have hn : (if n then str "not " else []).length ≤ 4 := by cases n <;> decide
    simp only [T.print, sz, List.length_append, show (str " is ").length = 4 from by decide, show (str "null").length = 4 from by decide]; omega
  | bin s a b iha ihb | junct s a b iha ihb | cmp s a b iha ihb =>
    intro k h
    have := iha 0 h.2.1
    have := ihb 0 h.2.2
    simp only [T.print, sz, List.length_append, show (str "(").length = 1 from by decide, show (str ")").length = 1 from by decide, show (str " ").length = 1 from by decide]; omega
  | isin a n b iha ihb =>
    intro k h
    have := iha 0 h.2.1
    have := ihb 0 h.2.2
    have hn : (if n then str "not " else []).length ≤ 4 := by cases n <;> decide
    simp only [T.print, sz, List.length_append, show (str ")").length = 1 from by decide, show (str " ").length = 1 from by decide, show (str "in (").length = 4 from by decide]; omega
  | quant s how a b iha ihb =>
    intro k h
    have := iha 0 h.2.1
    have := ihb 0 h.2.2
    simp only [T.print, sz, List.length_append, show (str ")").length = 1 from by decide, show (str " ").length = 1 from by decide, show (str " (").length = 2 from by decide]; omega
  | comb s all a b iha ihb =>
    intro k h
    have := iha 0 h.2.1
    have := ihb 0 h.2.2
    have hn : (if all then str " all" else []).length ≤ 4 := by cases all <;> decide
    simp only [T.print, sz, List.length_append, show (str "(").length = 1 from by decide, show (str ")").length = 1 from by decide, show (str " ").length = 1 from by decide]; omega
  | agg fn a ih =>
    intro k h
    rcases h.2 with rfl | h
    · simp only [T.print, sz, List.length_append, show (str "(*)").length = 3 from by decide]; omega
    · have := ih 0 h
      have ha : (T.agg fn a).print = fn ++ str "(" ++ a.print ++ str ")" ∨ a = .none := by cases a <;> first | exact .inl rfl | exact .inr rfl
      rcases ha with ha | rfl
      · rw [ha]; simp only [sz, List.length_append, show (str "(").length = 1 from by decide, show (str ")").length = 1 from by decide]; omega
      · simp [Good] at h
  | sel d it f w g h ih1 ih2 ih3 ih4 ih5 =>
    intro k hg
    obtain ⟨_, g1, g2, g3, g4, g5⟩ := hg
    have i1 := ih1 _ g1
    have i2 := ih2 _ g2
    have i4 := ih4 _ g4
    have i3 : w.print.length ≤ sz w := by
      rcases g3 with rfl | g3
      · simp [T.print]
      · exact ih3 _ g3
    have i5 : h.print.length ≤ sz h := by
      rcases g5 with rfl | g5
      · simp [T.print]
      · exact ih5 _ g5
    have hd : (if d then str "distinct " else []).length ≤ 9 := by cases d <;> decide
    have e1 := alt_it it
    have e2 := alt_opt (str " where ") w
    have e3 := alt_opt (str " group by ") g
    have e4 := alt_opt (str " having ") h
    rw [print_sel]
    simp only [sz, List.length_append, show (str "select ").length = 7 from by decide, show (str " from ").length = 6 from by decide, show (str " where ").length = 7 from by decide, show (str " group by ").length = 10 from by decide, show (str " having ").length = 8 from by decide] at *; omega
  | cons a b iha ihb =>
    intro k h
    have h2 : a.print.length ≤ sz a ∧ b.print.length ≤ sz b := by
      rcases h with ⟨_, h1, h2⟩ | ⟨_, h1, h2⟩ | ⟨_, h1, h2⟩ <;> exact ⟨iha _ h1, ihb _ h2⟩
    have : (T.cons a b).print = a.print ∨ (T.cons a b).print = a.print ++ str ", " ++ b.print := by cases b <;> first | exact .inl rfl | exact .inr rfl
    rcases this with h | h <;> rw [h] <;> simp only [sz, List.length_append, show (str ", ").length = 2 from by decide] <;> omega
  | item e s ih => intro k h; have := ih _ h.2; have := named_len e.print s; simp only [T.print, sz]; omega
  | src t s => intro k h; have := named_len t s; simp only [T.print, sz]; omega

theorem print_query {k : K} {ws : List W} {t : T} (h : G k ws t) (hk : k = .query ∨ k = .core) : t.print ≠ [] := by
  induction h with
  | q1 _ ih => exact ih (.inr rfl)
  | c1 _ _ _ ih => exact ih (.inl rfl)
  | q2 | q3 | c2 | c3 | c4 | c5 =>
    intro h
    have := congrArg List.length h
    simp only [T.print, List.length_append, List.length_nil, show (str "(").length = 1 from by decide, show (str "select ").length = 7 from by decide] at this
    omega
  | _ => rcases hk with hk | hk <;> cases hk
/-- A query that is read is a good tree, of a size that is far below what the machine holds. -/
theorem good_query {s : Str} {ws : List W} {t : T} (hw : words s = .inr ws) (h : G .query ws t) : Good t 0 ∧ sz t ≤ 440000 ∧ t.print ≠ [] := by
  obtain ⟨h1, h2⟩ := good_G h (words_nums hw)
  obtain ⟨b1, b2⟩ := words_bound hw
  have := Mw_le b2
  exact ⟨h1, by simp only [slack] at h2; omega, print_query h (.inl rfl)⟩
end Bags
