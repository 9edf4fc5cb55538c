/- Parts of a query in memory. -/
import Derived.Test.YtoephflcjllaaaaGreatDoorF
namespace Go.Proofs.YtoephflcjllaaaaGreatDoor
open Go.RowKit

/-- One cell: an interface, a pointer to a block of its own (at B or above) that holds these. -/
def Node (w : World) (B : Nat → Prop) (pt t : TypeId) (cs : Array Value) (l : List Value) : Prop := ∃ b, B b ∧ l = [.iface pt (.pointer (some ⟨b, 0, none⟩))] ∧ Blk w b t cs
/-- The block of a row is one of these. -/
def Own (B : Nat → Prop) (v : Value) : Prop := ∀ g, v.ownBlock = some g → B g
/-- Columns, as pointers. -/
def repCols (w : World) (B : Nat → Prop) : Bags.T → List Value → Prop
  | .none, l => l = []
  | .cons (.col o n) r, l => ∃ b l', B b ∧ l = .pointer (some ⟨b, 0, none⟩) :: l' ∧ Blk w b 229 #[.string (tx o), .string (tx n)] ∧ repCols w B r l'
  | _, _ => False
def str2 (s : Bags.Str) (all : Bool) : Bags.Str := if all then s ++ Bags.str " all" else s
/-- A part in memory. -/
def rep0 (w : World) (B : Nat → Prop) : Bags.T → List Value → Prop
  | .none, l => l = []
  | .num n, l => Node w B 259 261 #[.iface 159 (.int .i64 n)] l
  | .text s, l => Node w B 259 261 #[.iface 156 (.string (tx s))] l
  | .null, l => Node w B 259 261 #[.iface 155 (.agg #[])] l
  | .col o n, l => Node w B 211 229 #[.string (tx o), .string (tx n)] l
  | .neg a, l => ∃ x, rep0 w B a [x] ∧ Node w B 256 258 #[x] l
  | .bin s a b, l => ∃ x y, rep0 w B a [x] ∧ rep0 w B b [y] ∧ Node w B 265 269 #[.string (tx s), x, y] l
  | .agg fn a, l => ∃ x, ((a = .none ∧ x = .nilIface) ∨ rep0 w B a [x]) ∧ Node w B 262 264 #[.string (tx fn), x] l
  | .junct s a b, l => ∃ x y, rep0 w B a [x] ∧ rep0 w B b [y] ∧ Node w B 247 251 #[.string (tx s), x, y] l
  | .not a, l => ∃ x, rep0 w B a [x] ∧ Node w B 244 246 #[x] l
  | .exist q, l => ∃ x, rep0 w B q [x] ∧ Node w B 270 272 #[x] l
  | .isnull a n, l => ∃ x, rep0 w B a [x] ∧ Node w B 273 277 #[x, .bool n] l
  | .isin a n q, l => ∃ x y, rep0 w B a [x] ∧ rep0 w B q [y] ∧ Node w B 278 280 #[x, .bool n, y] l
  | .cmp s a b, l => ∃ x y, rep0 w B a [x] ∧ rep0 w B b [y] ∧ Node w B 284 285 #[.string (tx s), x, y] l
  | .quant s how a q, l => ∃ x y, rep0 w B a [x] ∧ rep0 w B q [y] ∧ Node w B 281 283 #[.string (tx s), .string (tx how), x, y] l
  | .comb s all a b, l => ∃ x y, rep0 w B a [x] ∧ rep0 w B b [y] ∧ Node w B 179 183 #[.string (tx (str2 s all)), x, y] l
  | .sel d it f wh g h, l => ∃ vi ni ci vf nf cf xw vg ng cg xh,
      w.ownsRow 0 203 2 vi ni ci ∧ Own B vi ∧ rep0 w B it ci ∧ w.ownsRow 0 207 2 vf nf cf ∧ Own B vf ∧ rep0 w B f cf ∧ ((wh = .none ∧ xw = .nilIface) ∨ rep0 w B wh [xw]) ∧
      w.ownsRow 0 211 1 vg ng cg ∧ Own B vg ∧ repCols w B g cg ∧ ((h = .none ∧ xh = .nilIface) ∨ rep0 w B h [xh]) ∧
      Node w B 193 199 #[.bool d, vi, vf, xw, vg, xh] l
  | .cons a b, l => ∃ l1 l2, l = l1 ++ l2 ∧ rep0 w B a l1 ∧ rep0 w B b l2
  | .item e s, l => ∃ x, l = [x, .string (tx s)] ∧ rep0 w B e [x]
  | .src t s, l => l = [.string (tx t), .string (tx s)]

/-- A part in memory, in blocks from B on. -/
def rep (w : World) (B : Nat) (t : Bags.T) (l : List Value) : Prop := rep0 w (fun b => B ≤ b) t l

section
variable {w w' : World} {P P' : Nat → Prop} {B B' : Nat} {S : Nat → Prop}
theorem Node.fr {pt t : TypeId} {cs : Array Value} {l : List Value} (h : Node w P pt t cs l) (hf : Fr S w w') (hS : ∀ k, S k → ¬ P k) (hP : ∀ k, P k → k < w.heap.size → P' k) : Node w' P' pt t cs l := by
  obtain ⟨b, h1, h2, h3⟩ := h
  exact ⟨b, hP b h1 h3.lt, h2, h3.fr hf fun hs => hS _ hs h1⟩
theorem own_size {e : TypeId} {size n : Nat} {v : Value} {xs : List Value} (h : w.ownsRow B e size v n xs) {g : Nat} (hg : v.ownBlock = some g) : g < w.heap.size ∧ B ≤ g := by
  obtain ⟨h1, h2⟩ := h
  rcases h2 with ⟨rfl, _⟩ | ⟨g', cap, cur, rfl, h3, h4, h5⟩
  · simp [Value.ownBlock] at hg
  · simp [Value.ownBlock] at hg; subst hg; exact ⟨lt_of_some h4, h3⟩
theorem ownsRow_fr {e : TypeId} {size n : Nat} {v : Value} {xs : List Value} (h : w.ownsRow B e size v n xs) (hf : Fr S w w') (hS : ∀ k, S k → v.ownBlock ≠ some k) (hB : ∀ g, v.ownBlock = some g → B ≤ g → B' ≤ g) : w'.ownsRow B' e size v n xs := by
  obtain ⟨h1, h2⟩ := h
  refine ⟨h1, ?_⟩
  rcases h2 with h2 | ⟨g, cap, cur, rfl, h3, h4, h5⟩
  · exact .inl h2
  · exact .inr ⟨g, cap, cur, rfl, hB g rfl h3, (hf.keep g (lt_of_some h4) fun hs => hS _ hs rfl).trans h4, h5⟩
theorem ownsRow_fr0 {e : TypeId} {size n : Nat} {v : Value} {xs : List Value} (h : w.ownsRow 0 e size v n xs) (ho : Own P v) (hf : Fr S w w') (hS : ∀ k, S k → ¬ P k) : w'.ownsRow 0 e size v n xs :=
  ownsRow_fr h hf (fun k hk e => hS k hk (ho k e)) (fun _ _ _ => Nat.zero_le _)
theorem Own.mono {e : TypeId} {size n : Nat} {v : Value} {xs : List Value} (ho : Own P v) (h : w.ownsRow 0 e size v n xs) (hP : ∀ k, P k → k < w.heap.size → P' k) : Own P' v := fun g hg => hP g (ho g hg) (own_size h hg).1
theorem repCols.fr (hf : Fr S w w') (hS : ∀ k, S k → ¬ P k) (hP : ∀ k, P k → k < w.heap.size → P' k) : ∀ {t : Bags.T} {l : List Value}, repCols w P t l → repCols w' P' t l := by
  intro t
  induction t with
  | none => intro l h; exact h
  | cons a r iha ih =>
    intro l h
    cases a with
    | col o n =>
      obtain ⟨b, l', h1, h2, h3, h4⟩ := h
      exact ⟨b, l', hP b h1 h3.lt, h2, h3.fr hf fun hs => hS _ hs h1, ih h4⟩
    | _ => exact h.elim
  | _ => intro l h; simp [repCols] at h
theorem rep0.fr (hf : Fr S w w') (hS : ∀ k, S k → ¬ P k) (hP : ∀ k, P k → k < w.heap.size → P' k) : ∀ {t : Bags.T} {l : List Value}, rep0 w P t l → rep0 w' P' t l := by
  intro t
  induction t with
  | none => intro l h; exact h
  | src a b => intro l h; exact h
  | num | text | null | col => intro l h; exact Node.fr h hf hS hP
  | neg a ih | not a ih | exist a ih | isnull a n ih => intro l h; obtain ⟨x, h1, h2⟩ := h; exact ⟨x, ih h1, h2.fr hf hS hP⟩
  | bin s a b iha ihb | junct s a b iha ihb | isin a n b iha ihb | cmp s a b iha ihb | quant s how a b iha ihb | comb s all a b iha ihb =>
    intro l h; obtain ⟨x, y, h1, h2, h3⟩ := h; exact ⟨x, y, iha h1, ihb h2, h3.fr hf hS hP⟩
  | agg fn a ih =>
    intro l h
    obtain ⟨x, h1, h2⟩ := h
    exact ⟨x, h1.imp id ih, h2.fr hf hS hP⟩
  | cons a b iha ihb => intro l h; obtain ⟨l1, l2, h1, h2, h3⟩ := h; exact ⟨l1, l2, h1, iha h2, ihb h3⟩
  | item e s ih => intro l h; obtain ⟨x, h1, h2⟩ := h; exact ⟨x, h1, ih h2⟩
  | sel d it f wh g h' ih1 ih2 ih3 ih4 ih5 =>
    intro l h
    obtain ⟨vi, ni, ci, vf, nf, cf, xw, vg, ng, cg, xh, h1, o1, h2, h3, o3, h4, h5, h6, o6, h7, h8, h9⟩ := h
    exact ⟨vi, ni, ci, vf, nf, cf, xw, vg, ng, cg, xh, ownsRow_fr0 h1 o1 hf hS, o1.mono h1 hP, ih1 h2, ownsRow_fr0 h3 o3 hf hS, o3.mono h3 hP, ih2 h4, h5.imp id ih3, ownsRow_fr0 h6 o6 hf hS, o6.mono h6 hP, h7.fr hf hS hP, h8.imp id ih5, h9.fr hf hS hP⟩
theorem rep.fr (hf : Fr S w w') (hS : ∀ k, S k → k < B) (hB : B' ≤ B) {t : Bags.T} {l : List Value} (h : rep w B t l) : rep w' B' t l :=
  rep0.fr hf (fun k hk hb => by have := hS k hk; omega) (fun k hk _ => by omega) h
theorem rep.iface1 : ∀ {t : Bags.T} {x : Value}, rep0 w P t [x] → ∃ p v, x = .iface p v := by
  intro t
  induction t with
  | none => intro x h; simp [rep0] at h
  | src a b => intro x h; simp [rep0] at h
  | num | text | null | col => intro x h; obtain ⟨b, _, h, _⟩ := h; simp at h; exact ⟨_, _, h⟩
  | neg a ih | not a ih | exist a ih | isnull a n ih => intro x h; obtain ⟨y, _, b, _, h, _⟩ := h; simp at h; exact ⟨_, _, h⟩
  | bin s a b iha ihb | junct s a b iha ihb | isin a n b iha ihb | cmp s a b iha ihb | quant s how a b iha ihb | comb s all a b iha ihb =>
    intro x h; obtain ⟨y, z, _, _, b, _, h, _⟩ := h; simp at h; exact ⟨_, _, h⟩
  | agg fn a ih => intro x h; obtain ⟨y, _, b, _, h, _⟩ := h; simp at h; exact ⟨_, _, h⟩
  | cons a b iha ihb =>
    intro x h
    obtain ⟨l1, l2, h1, h2, h3⟩ := h
    cases l1 with
    | nil => simp at h1; subst h1; exact ihb h3
    | cons y l1 => simp at h1; obtain ⟨rfl, rfl, rfl⟩ := h1; exact iha h2
  | item e s ih => intro x h; obtain ⟨y, h, _⟩ := h; simp at h
  | sel d it f wh g h' ih1 ih2 ih3 ih4 ih5 =>
    intro x h
    obtain ⟨vi, ni, ci, vf, nf, cf, xw, vg, ng, cg, xh, h1, _, h2, h3, _, h4, h5, h6, _, h7, h8, b, _, h, _⟩ := h
    simp at h
    exact ⟨_, _, h⟩
theorem rep.iface {t : Bags.T} {x : Value} (h : rep w B t [x]) : ∃ p v, x = .iface p v := rep.iface1 h
end
end Go.Proofs.YtoephflcjllaaaaGreatDoor
