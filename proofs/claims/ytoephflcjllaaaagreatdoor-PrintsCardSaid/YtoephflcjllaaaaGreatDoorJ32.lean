/- The reference's trees and its cutter in memory. -/
import Derived.Test.YtoephflcjllaaaaGreatDoorJ31
import Derived.Test.YtoephflcjllaaaaGreatDoorJ02
import Derived.Test.YtoephflcjllaaaaGreatDoorJ06
import Derived.Deep.RegionHeld3
import Derived.BigQuiet
import Derived.LaidEqlPtr
namespace Go.Proofs.YtoephflcjllaaaaGreatDoor
open Go.RowKit

/-- A pointer to a block. -/
def ptr (b : Nat) : Value := .pointer (some ⟨b, 0, none⟩)
/-- A row of pointers to trees, in a block from B on. -/
def kidsV (w : World) (B : Nat) (v : Value) (ks : List Nat) : Prop := w.ownsRow B 30 1 v ks.length (ks.map ptr)
/-- A tree's cells. -/
def treeC (kd sg txt of_ as_ : Bags.Str) (nm : Int) (st nt al ds : Bool) (kids items from_ group wher having_ : Value) : Array Value :=
  #[.string (tx kd), .string (tx sg), .string (tx txt), .string (tx of_), .string (tx as_), .int .i64 nm, .bool st, .bool nt, .bool al, .bool ds, kids, items, from_, group, wher, having_]
/-- A tree that has but kids. -/
def NodeT (w : World) (B : Nat) (kd sg txt of_ as_ : Bags.Str) (nm : Int) (st nt al : Bool) (ks : List Nat) (l : List Nat) : Prop :=
  ∃ b v, l = [b] ∧ B ≤ b ∧ kidsV w B v ks ∧ Blk w b 64 (treeC kd sg txt of_ as_ nm st nt al false v (.slice none 0 0) (.slice none 0 0) (.slice none 0 0) (.pointer none) (.pointer none))
/-- A part as trees, in blocks from B on. -/
def tr (w : World) (B : Nat) : Bags.T → List Nat → Prop
  | .none, l => l = []
  | .num n, l => NodeT w B (Bags.str "num") [] [] [] [] n false false false [] l
  | .text s, l => NodeT w B (Bags.str "text") [] s [] [] 0 false false false [] l
  | .null, l => NodeT w B (Bags.str "null") [] [] [] [] 0 false false false [] l
  | .col o n, l => NodeT w B (Bags.str "column") [] n o [] 0 false false false [] l
  | .neg a, l => ∃ x, tr w B a [x] ∧ NodeT w B (Bags.str "neg") [] [] [] [] 0 false false false [x] l
  | .bin s a b, l => ∃ x y, tr w B a [x] ∧ tr w B b [y] ∧ NodeT w B s [] [] [] [] 0 false false false [x, y] l
  | .agg fn a, l => (a = .none ∧ NodeT w B fn [] [] [] [] 0 true false false [] l) ∨ ∃ x, tr w B a [x] ∧ NodeT w B fn [] [] [] [] 0 false false false [x] l
  | .junct s a b, l => ∃ x y, tr w B a [x] ∧ tr w B b [y] ∧ NodeT w B s [] [] [] [] 0 false false false [x, y] l
  | .not a, l => ∃ x, tr w B a [x] ∧ NodeT w B (Bags.str "not") [] [] [] [] 0 false false false [x] l
  | .exist q, l => ∃ x, tr w B q [x] ∧ NodeT w B (Bags.str "exists") [] [] [] [] 0 false false false [x] l
  | .isnull a n, l => ∃ x, tr w B a [x] ∧ NodeT w B (Bags.str "isnull") [] [] [] [] 0 false n false [x] l
  | .isin a n q, l => ∃ x y, tr w B a [x] ∧ tr w B q [y] ∧ NodeT w B (Bags.str "in") [] [] [] [] 0 false n false [x, y] l
  | .cmp s a b, l => ∃ x y, tr w B a [x] ∧ tr w B b [y] ∧ NodeT w B (Bags.str "compare") s [] [] [] 0 false false false [x, y] l
  | .quant s how a q, l => ∃ x y, tr w B a [x] ∧ tr w B q [y] ∧ NodeT w B how s [] [] [] 0 false false false [x, y] l
  | .comb s all a b, l => ∃ x y, tr w B a [x] ∧ tr w B b [y] ∧ NodeT w B s [] [] [] [] 0 false false all [x, y] l
  | .sel d it f wh g h, l => ∃ b vi pi vf pf xw vg pg xh, l = [b] ∧ B ≤ b ∧ tr w B it pi ∧ kidsV w B vi pi ∧ tr w B f pf ∧ kidsV w B vf pf ∧ ((wh = .none ∧ xw = .pointer none) ∨ ∃ p, xw = ptr p ∧ tr w B wh [p]) ∧
      tr w B g pg ∧ kidsV w B vg pg ∧ ((h = .none ∧ xh = .pointer none) ∨ ∃ p, xh = ptr p ∧ tr w B h [p]) ∧ (it = .none ∨ pi ≠ []) ∧
      Blk w b 64 (treeC (Bags.str "select") [] [] [] [] 0 (decide (pi = [])) false false d (.slice none 0 0) vi vf vg xw xh)
  | .cons a r, l => ∃ l1 l2, l = l1 ++ l2 ∧ tr w B a l1 ∧ tr w B r l2
  | .item e s, l => ∃ x, tr w B e [x] ∧ NodeT w B (Bags.str "item") [] [] [] s 0 false false false [x] l
  | .src t s, l => NodeT w B (Bags.str "source") [] t [] s 0 false false false [] l
/-- What may be none. -/
def optT (w : World) (B : Nat) (t : Bags.T) (x : Value) : Prop := (t = .none ∧ x = .pointer none) ∨ ∃ p, x = ptr p ∧ tr w B t [p]
/-- What stands behind from, where, group by. -/
def tailN (w : World) (B : Nat) (kd : Bags.Str) (f wh g h : Bags.T) (b : Nat) : Prop :=
  ∃ vf pf xw vg pg xh, B ≤ b ∧ tr w B f pf ∧ kidsV w B vf pf ∧ optT w B wh xw ∧ tr w B g pg ∧ kidsV w B vg pg ∧ optT w B h xh ∧
    Blk w b 64 (treeC kd [] [] [] [] 0 false false false false (.slice none 0 0) (.slice none 0 0) vf vg xw xh)
/-- What a stretch's tree is, by its kind. -/
def treeK (w : World) (B : Nat) (k : Bags.K) (t : Bags.T) (b : Nat) : Prop := match k with
  | .items | .sources | .cols => ∃ ks, ks ≠ [] ∧ tr w B t ks ∧ NodeT w B (Bags.str "row") [] [] [] [] 0 false false false ks [b]
  | .tail | .after | .grouped => ∃ f wh g h, t = .sel false .none f wh g h ∧ tailN w B (Bags.str "tail") f wh g h b
  | _ => tr w B t [b]

section
variable {w w' : World} {B M : Nat}
theorem kidsV.fr (hf : Fr (· = M) w w') (hM : M < B) {v : Value} {ks : List Nat} (h : kidsV w B v ks) : kidsV w' B v ks :=
  ownsRow_fr h hf (fun k hk e => by have := (own_size h e).2; omega) (fun _ _ h => h)
theorem NodeT.fr (hf : Fr (· = M) w w') (hM : M < B) {kd sg txt of_ as_ : Bags.Str} {nm : Int} {st nt al : Bool} {ks l : List Nat} (h : NodeT w B kd sg txt of_ as_ nm st nt al ks l) : NodeT w' B kd sg txt of_ as_ nm st nt al ks l := by
  obtain ⟨b, v, h1, h2, h3, h4⟩ := h
  exact ⟨b, v, h1, h2, h3.fr hf hM, h4.fr hf (by omega)⟩
theorem tr.fr (hf : Fr (· = M) w w') (hM : M < B) : ∀ {t : Bags.T} {l : List Nat}, tr w B t l → tr w' B t l := by
  intro t
  induction t with
  | none => intro l h; exact h
  | src a b => intro l h; exact NodeT.fr hf hM h
  | num | text | null | col => intro l h; exact NodeT.fr hf hM h
  | neg a ih | not a ih | exist a ih | isnull a n ih | item a s ih => intro l h; obtain ⟨x, h1, h2⟩ := h; exact ⟨x, ih h1, h2.fr hf hM⟩
  | bin s a b iha ihb | junct s a b iha ihb | isin a n b iha ihb | cmp s a b iha ihb | quant s how a b iha ihb | comb s all a b iha ihb =>
    intro l h; obtain ⟨x, y, h1, h2, h3⟩ := h; exact ⟨x, y, iha h1, ihb h2, h3.fr hf hM⟩
  | agg fn a ih =>
    intro l h
    rcases h with ⟨h1, h2⟩ | ⟨x, h1, h2⟩
    · exact .inl ⟨h1, h2.fr hf hM⟩
    · exact .inr ⟨x, ih h1, h2.fr hf hM⟩
  | cons a b iha ihb => intro l h; obtain ⟨l1, l2, h1, h2, h3⟩ := h; exact ⟨l1, l2, h1, iha h2, ihb h3⟩
  | sel d it f wh g h' ih1 ih2 ih3 ih4 ih5 =>
    intro l h
    obtain ⟨b, vi, pi, vf, pf, xw, vg, pg, xh, h1, h2, h3, h4, h5, h6, h7, h8, h9, h10, h11, h12⟩ := h
    exact ⟨b, vi, pi, vf, pf, xw, vg, pg, xh, h1, h2, ih1 h3, h4.fr hf hM, ih2 h5, h6.fr hf hM, h7.imp id (fun ⟨p, e, h⟩ => ⟨p, e, ih3 h⟩), ih4 h8, h9.fr hf hM, h10.imp id (fun ⟨p, e, h⟩ => ⟨p, e, ih5 h⟩), h11, h12.fr hf (by omega)⟩
theorem optT.fr (hf : Fr (· = M) w w') (hM : M < B) {t : Bags.T} {x : Value} (h : optT w B t x) : optT w' B t x := h.imp id (fun ⟨p, e, h⟩ => ⟨p, e, h.fr hf hM⟩)
theorem tailN.fr (hf : Fr (· = M) w w') (hM : M < B) {kd : Bags.Str} {f wh g h : Bags.T} {b : Nat} (h0 : tailN w B kd f wh g h b) : tailN w' B kd f wh g h b := by
  obtain ⟨vf, pf, xw, vg, pg, xh, h1, h2, h3, h4, h5, h6, h7, h8⟩ := h0
  exact ⟨vf, pf, xw, vg, pg, xh, h1, h2.fr hf hM, h3.fr hf hM, h4.fr hf hM, h5.fr hf hM, h6.fr hf hM, h7.fr hf hM, h8.fr hf (by omega)⟩
theorem treeK.fr (hf : Fr (· = M) w w') (hM : M < B) {k : Bags.K} {t : Bags.T} {b : Nat} (h : treeK w B k t b) : treeK w' B k t b := by
  unfold treeK at *
  split at h
  all_goals first
    | (obtain ⟨ks, h1, h2, h3⟩ := h; exact ⟨ks, h1, h2.fr hf hM, h3.fr hf hM⟩)
    | (obtain ⟨f, wh, g, h', h1, h2⟩ := h; exact ⟨f, wh, g, h', h1, h2.fr hf hM⟩)
    | exact h.fr hf hM
end

theorem NodeT.blk {w : World} {B : Nat} {kd sg txt of_ as_ : Bags.Str} {nm : Int} {st nt al : Bool} {ks : List Nat} {b : Nat} (h : NodeT w B kd sg txt of_ as_ nm st nt al ks [b]) : ∃ t cs, Blk w b t cs := by
  obtain ⟨b', v, h1, _, _, h4⟩ := h
  injection h1 with h1
  exact ⟨_, _, h1 ▸ h4⟩
theorem tr.blk {w : World} {B : Nat} : ∀ {t : Bags.T} {b : Nat}, tr w B t [b] → ∃ t cs, Blk w b t cs := by
  intro t
  induction t with
  | none => intro b h; simp [tr] at h
  | src _ _ => intro b h; exact NodeT.blk h
  | num | text | null | col => intro b h; exact NodeT.blk h
  | neg a ih | not a ih | exist a ih | isnull a n ih | item a s ih => intro b h; obtain ⟨x, h1, h2⟩ := h; exact h2.blk
  | bin s a b iha ihb | junct s a b iha ihb | isin a n b iha ihb | cmp s a b iha ihb | quant s how a b iha ihb | comb s all a b iha ihb =>
    intro b h; obtain ⟨x, y, h1, h2, h3⟩ := h; exact h3.blk
  | agg fn a ih =>
    intro b h
    rcases h with ⟨h1, h2⟩ | ⟨x, h1, h2⟩
    · exact h2.blk
    · exact h2.blk
  | cons a r iha ihr =>
    intro b h
    obtain ⟨l1, l2, h1, h2, h3⟩ := h
    cases l1 with
    | nil => simp at h1; subst h1; exact ihr h3
    | cons y l1 => simp at h1; obtain ⟨rfl, rfl, rfl⟩ := h1; exact iha h2
  | sel d it f wh g h' ih1 ih2 ih3 ih4 ih5 =>
    intro b h
    obtain ⟨b', vi, pi, vf, pf, xw, vg, pg, xh, h1, _, _, _, _, _, _, _, _, _, _, h12⟩ := h
    injection h1 with h1
    exact ⟨_, _, h1 ▸ h12⟩
theorem treeK.blk {w : World} {B : Nat} {k : Bags.K} {t : Bags.T} {b : Nat} (h : treeK w B k t b) : ∃ t cs, Blk w b t cs := by
  unfold treeK at h
  split at h
  all_goals first
    | (obtain ⟨ks, h1, h2, h3⟩ := h; exact h3.blk)
    | (obtain ⟨f, wh, g, h', h1, vf, pf, xw, vg, pg, xh, _, _, _, _, _, _, _, h8⟩ := h; exact ⟨_, _, h8⟩)
    | exact h.blk

/-! ### The cutter -/
structure Ctx where
  C : Nat
  W : Nat
  M : Nat
  Z : Nat
  B : Nat
  cap : Nat
  ws : List Bags.W
def kOf : Nat → Bags.K
  | 0 => .query | 1 => .core | 2 => .tail | 3 => .after | 4 => .grouped | 5 => .items | 6 => .item | 7 => .sources | 8 => .source | 9 => .cols | 10 => .col
  | 11 => .cond | 12 => .conj | 13 => .neg | 14 => .basic | 15 => .expr | 16 => .term | _ => .factor
def Ctx.n (c : Ctx) : Nat := c.ws.length
def Ctx.at_ (c : Ctx) (k i j : Nat) : Nat := (k * (c.n + 1) + i) * (c.n + 1) + j
/-- What the memo says of a stretch. -/
def Memo (c : Ctx) (w : World) (k i j : Nat) (v : Value) : Prop :=
  v = .pointer none ∨ (v = ptr c.Z ∧ ¬ Bags.Has c.ws (kOf k) i j) ∨ ∃ b t, v = ptr b ∧ c.B ≤ b ∧ treeK w c.B (kOf k) t b ∧ Bags.Der c.ws (kOf k) i j t
structure CS (c : Ctx) (w : World) : Prop where
  blk : Blk w c.C 103 #[.slice (some ⟨c.W, 0, none⟩) c.n c.cap, .int .i64 c.n, .slice (some ⟨c.M, 0, none⟩) (18 * (c.n + 1) * (c.n + 1)) (18 * (c.n + 1) * (c.n + 1)), ptr c.Z]
  words : ∃ cur, w.heap[c.W]? = some (.cells cur 98 (0, 0)) ∧ cur.toList.take (c.n * 3) = c.ws.flatMap wordR
  capn : c.n ≤ c.cap ∧ c.cap ≤ maxLen
  memo : ∃ ms, Blk w c.M 30 ms ∧ ms.size = 18 * (c.n + 1) * (c.n + 1) ∧ ∀ k i j, k < 18 → i ≤ c.n → j ≤ c.n → ∃ v, ms[c.at_ k i j]? = some v ∧ Memo c w k i j v
  lt : c.C < c.B ∧ c.W < c.B ∧ c.M < c.B ∧ c.Z < c.B
  ne : c.C ≠ c.M ∧ c.W ≠ c.M ∧ c.Z ≠ c.M
  zero : ∃ t cs, Blk w c.Z t cs
  size : c.B ≤ w.heap.size
  pos : 0 < c.n ∧ c.n ≤ 400
theorem Memo.fr {c : Ctx} {w w' : World} {M k i j : Nat} {v : Value} (hf : Fr (· = M) w w') (hM : M < c.B) (h : Memo c w k i j v) : Memo c w' k i j v := by
  rcases h with h | h | ⟨b, t, h1, h2, h3, h4⟩
  · exact .inl h
  · exact .inr (.inl h)
  · exact .inr (.inr ⟨b, t, h1, h2, h3.fr hf hM, h4⟩)
/-- New blocks leave all as it was. -/
theorem CS.below {c : Ctx} {w w' : World} (h : CS c w) (hb : Below w.heap.size w w') : CS c w' := by
  have hf : Fr (· = c.M) w w' := Fr.of_below hb
  obtain ⟨cur, hw1, hw2⟩ := h.words
  obtain ⟨ms, h1, h2, h3⟩ := h.memo
  refine ⟨h.blk.later hb, ⟨cur, (hb.block c.W (lt_of_some hw1)).trans hw1, hw2⟩, h.capn, ⟨ms, h1.later hb, h2, fun k i j a b d => ?_⟩, h.lt, h.ne, h.zero.imp fun t ⟨cs, h⟩ => ⟨cs, h.later hb⟩, Nat.le_trans h.size hb.size, h.pos⟩
  obtain ⟨v, e1, e2⟩ := h3 k i j a b d
  exact ⟨v, e1, e2.fr hf h.lt.2.2.1⟩
theorem CS.alloc {c : Ctx} {w : World} (h : CS c w) (o : Obj) : CS c (w.alloc o) := h.below ((Below.refl _ _).alloc (Nat.le_refl _) o)
theorem CS.drew {c : Ctx} {w : World} (h : CS c w) : CS c w.drew := h.below (Below.refl w.heap.size w).drew

/-! ### A word's cells -/
theorem wr_get (ws : List Bags.W) : ∀ i, i < ws.length → ∀ j, j < 3 → (ws.flatMap wordR)[i * 3 + j]? = (wordR (Bags.wd ws i))[j]? := by
  induction ws with
  | nil => intro i hi; simp at hi
  | cons w r ih =>
    intro i hi j hj
    cases i with
    | zero =>
      rw [List.flatMap_cons, List.getElem?_append_left (by simp [wordR]; omega)]
      simp [Bags.wd, Bags.hd]
    | succ i =>
      rw [List.flatMap_cons, List.getElem?_append_right (by simp [wordR]; omega)]
      have := ih i (by simpa using hi) j hj
      rw [show (i + 1) * 3 + j - (wordR w).length = i * 3 + j by simp [wordR]; omega, this]
      simp [Bags.wd]
theorem CS.word {c : Ctx} {w : World} (h : CS c w) {i : Nat} (hi : i < c.n) : w.cell? ⟨c.W, i * 3, none⟩ = some (.string (sortB (Bags.wd c.ws i).sort)) ∧ w.cell? ⟨c.W, i * 3 + 1, none⟩ = some (.string (tx (Bags.wd c.ws i).text)) ∧ w.cell? ⟨c.W, i * 3 + 2, none⟩ = some (.int .i64 (Bags.wd c.ws i).num) := by
  obtain ⟨cur, h1, h2⟩ := h.words
  have key : ∀ j, j < 3 → w.cell? ⟨c.W, i * 3 + j, none⟩ = (wordR (Bags.wd c.ws i))[j]? := fun j hj => by
    have e : w.cell? ⟨c.W, i * 3 + j, none⟩ = cur[i * 3 + j]? := by simp [World.cell?, h1]
    rw [e, ← wr_get c.ws i hi j hj, ← h2, List.getElem?_take_of_lt (by omega), Array.getElem?_toList]
  exact ⟨key 0 (by omega), key 1 (by omega), key 2 (by omega)⟩
theorem sort_key (n : Nat) : ((sortB n).toList == [107, 101, 121]) = (n == 1) := by
  rw [bs_toList]
  match n with
  | 0 | 1 | 2 | 3 | 4 | 5 => decide
  | n + 6 => show ((bs ⟨#[]⟩) == _) = _; rw [show (n + 6 == 1) = false by simp]; decide
theorem sort_name (n : Nat) : ((sortB n).toList == [110, 97, 109, 101]) = (n == 2) := by
  rw [bs_toList]
  match n with
  | 0 | 1 | 2 | 3 | 4 | 5 => decide
  | n + 6 => show ((bs ⟨#[]⟩) == _) = _; rw [show (n + 6 == 2) = false by simp]; decide
theorem sort_num (n : Nat) : ((sortB n).toList == [110, 117, 109]) = (n == 3) := by
  rw [bs_toList]
  match n with
  | 0 | 1 | 2 | 3 | 4 | 5 => decide
  | n + 6 => show ((bs ⟨#[]⟩) == _) = _; rw [show (n + 6 == 3) = false by simp]; decide
theorem sort_text (n : Nat) : ((sortB n).toList == [116, 101, 120, 116]) = (n == 4) := by
  rw [bs_toList]
  match n with
  | 0 | 1 | 2 | 3 | 4 | 5 => decide
  | n + 6 => show ((bs ⟨#[]⟩) == _) = _; rw [show (n + 6 == 4) = false by simp]; decide
theorem sort_sign (n : Nat) : ((sortB n).toList == [115, 105, 103, 110]) = (n == 5) := by
  rw [bs_toList]
  match n with
  | 0 | 1 | 2 | 3 | 4 | 5 => decide
  | n + 6 => show ((bs ⟨#[]⟩) == _) = _; rw [show (n + 6 == 5) = false by simp]; decide
theorem is_cells (x : Bags.W) (n : Nat) (s : ByteArray) : x.is n [bs s] = ((x.sort == n) && ((tx x.text).toList == s.toList)) := by
  rw [bs_toList, bs_toList, bs_tx, Bags.W.is, List.contains_cons, List.contains_nil, Bool.or_false]
theorem wd_sort {ws : List Bags.W} {i : Nat} (h : ws.length ≤ i) (n : Nat) (l : List Bags.Str) (hn : n ≠ 0) : (Bags.wd ws i).is n l = false := by
  rw [Bags.wd_out h]
  exact Bags.sort_not rfl (fun e => hn e.symm)

set_option maxRecDepth 100000 in
set_option maxHeartbeats 2000000 in
theorem key_any (c : Ctx) (w : World) (h : CS c w) (i : Nat) (s : ByteArray) : Calls Tryz.prog 92 #[ptr c.C, .int .i64 i, .string s] w fun e w' => e = .returned (.bool ((Bags.wd c.ws i).is 1 [bs s])) ∧ w = w' := by
  have hb := h.blk
  have hc := h.capn
  unfold maxLen at hc
  have c0 := hb.cell 0
  have c1 := hb.cell 1
  simp at c0 c1
  have hi0 : (0 : Int) ≤ (i : Int) := by omega
  by_cases hi : i < c.n
  · have hi' : (i : Int) < (c.n : Int) := by omega
    obtain ⟨w0, w1, _⟩ := h.word hi
    rw [is_cells]
    have e0 := sort_key (Bags.wd c.ws i).sort
    generalize hB : ((tx (Bags.wd c.ws i).text).toList == s.toList) = B2 at *
    generalize ((Bags.wd c.ws i).sort == 1) = B1 at *
    unfold ptr
    clear hb h
    cases B1
    · clear hB
      go_enter Tryz.func92, Tryz.ntmps92
      go_wp2_with fail
      go_ret
      exact ⟨rfl, rfl⟩
    · go_enter Tryz.func92, Tryz.ntmps92
      go_wp2_with fail
      go_ret
      exact ⟨rfl, rfl⟩
  · have hi' : ¬ (i : Int) < (c.n : Int) := by omega
    rw [wd_sort (by unfold Ctx.n at hi; omega) _ _ (by decide)]
    unfold ptr
    clear hb h
    go_enter Tryz.func92, Tryz.ntmps92
    go_wp2_with fail
    go_ret
    exact ⟨rfl, rfl⟩

set_option maxRecDepth 100000 in
set_option maxHeartbeats 2000000 in
theorem sign_any (c : Ctx) (w : World) (h : CS c w) (i : Nat) (s : ByteArray) : Calls Tryz.prog 111 #[ptr c.C, .int .i64 i, .string s] w fun e w' => e = .returned (.bool ((Bags.wd c.ws i).is 5 [bs s])) ∧ w = w' := by
  have hb := h.blk
  have hc := h.capn
  unfold maxLen at hc
  have c0 := hb.cell 0
  have c1 := hb.cell 1
  simp at c0 c1
  have hi0 : (0 : Int) ≤ (i : Int) := by omega
  by_cases hi : i < c.n
  · have hi' : (i : Int) < (c.n : Int) := by omega
    obtain ⟨w0, w1, _⟩ := h.word hi
    rw [is_cells]
    have e0 := sort_sign (Bags.wd c.ws i).sort
    generalize hB : ((tx (Bags.wd c.ws i).text).toList == s.toList) = B2 at *
    generalize ((Bags.wd c.ws i).sort == 5) = B1 at *
    unfold ptr
    clear hb h
    cases B1
    · clear hB
      go_enter Tryz.func111, Tryz.ntmps111
      go_wp2_with fail
      go_ret
      exact ⟨rfl, rfl⟩
    · go_enter Tryz.func111, Tryz.ntmps111
      go_wp2_with fail
      go_ret
      exact ⟨rfl, rfl⟩
  · have hi' : ¬ (i : Int) < (c.n : Int) := by omega
    rw [wd_sort (by unfold Ctx.n at hi; omega) _ _ (by decide)]
    unfold ptr
    clear hb h
    go_enter Tryz.func111, Tryz.ntmps111
    go_wp2_with fail
    go_ret
    exact ⟨rfl, rfl⟩

set_option maxRecDepth 100000 in
set_option maxHeartbeats 2000000 in
theorem name_any (c : Ctx) (w : World) (h : CS c w) (i : Nat) : Calls Tryz.prog 112 #[ptr c.C, .int .i64 i] w fun e w' => e = .returned (.bool ((Bags.wd c.ws i).sort == 2)) ∧ w = w' := by
  have hb := h.blk
  have hc := h.capn
  unfold maxLen at hc
  have c0 := hb.cell 0
  have c1 := hb.cell 1
  simp at c0 c1
  have hi0 : (0 : Int) ≤ (i : Int) := by omega
  by_cases hi : i < c.n
  · have hi' : (i : Int) < (c.n : Int) := by omega
    obtain ⟨w0, _, _⟩ := h.word hi
    have e0 := sort_name (Bags.wd c.ws i).sort
    generalize ((Bags.wd c.ws i).sort == 2) = B1 at *
    unfold ptr
    clear hb h
    go_enter Tryz.func112, Tryz.ntmps112
    go_wp2_with fail
    go_ret
    exact ⟨rfl, rfl⟩
  · have hi' : ¬ (i : Int) < (c.n : Int) := by omega
    have hs : ((Bags.wd c.ws i).sort == 2) = false := by rw [Bags.wd_out (by unfold Ctx.n at hi; omega)]; rfl
    rw [hs]
    unfold ptr
    clear hb h hs
    go_enter Tryz.func112, Tryz.ntmps112
    go_wp2_with fail
    go_ret
    exact ⟨rfl, rfl⟩

set_option maxRecDepth 100000 in
set_option maxHeartbeats 2000000 in
theorem key_neg (C : Nat) (w : World) (i : Int) (hi : i < 0) (s : ByteArray) : Calls Tryz.prog 92 #[ptr C, .int .i64 i, .string s] w fun e w' => e = .returned (.bool false) ∧ w = w' := by
  have hi' : ¬ (0 : Int) ≤ i := by omega
  unfold ptr
  go_enter Tryz.func92, Tryz.ntmps92
  go_wp2_with fail
  go_ret
  exact ⟨rfl, rfl⟩
end Go.Proofs.YtoephflcjllaaaaGreatDoor
/- Walks of the reference's cutter: round, is. -/
namespace Go.Proofs.YtoephflcjllaaaaGreatDoor
open Go.RowKit

/-- What a look for a stretch answers. -/
def IsRes (c : Ctx) (k : Bags.K) (i j : Nat) (w : World) (e : Ending) (w' : World) : Prop :=
  CS c w' ∧ Fr (· = c.M) w w' ∧ ((e = .returned (.pointer none) ∧ ¬ Bags.Has c.ws k i j) ∨
    ∃ b t, e = .returned (.pointer (some ⟨b, 0, none⟩)) ∧ c.B ≤ b ∧ treeK w' c.B k t b ∧ Bags.Der c.ws k i j t)
def rk (k : Nat) : Nat := [1, 0, 2, 4, 2, 5, 4, 1, 0, 1, 0, 3, 2, 1, 0, 3, 2, 1].getD k 0
def rank (k i j : Nat) : Nat := (j - i) * 20 + rk k
/-- is, up to that rank. -/
def IsOK (c : Ctx) (N : Nat) : Prop := ∀ (k i j : Nat) (w : World), k < 18 → rank k i j < N → i ≤ 1000 → j ≤ 1000 → CS c w →
  Calls Tryz.prog 42 #[.pointer (some ⟨c.C, 0, none⟩), .int .i64 k, .int .i64 i, .int .i64 j] w (IsRes c (kOf k) i j w)
def RoundRes (c : Ctx) (k : Bags.K) (i j : Nat) (w : World) (e : Ending) (w' : World) : Prop :=
  CS c w' ∧ Fr (· = c.M) w w' ∧ ((e = .returned (.pointer none) ∧ ¬ ∃ t, Bags.Rnd c.ws k i j t) ∨
    ∃ b t, e = .returned (.pointer (some ⟨b, 0, none⟩)) ∧ c.B ≤ b ∧ treeK w' c.B k t b ∧ Bags.Rnd c.ws k i j t)
theorem str_open : Bags.str "(" = bs ⟨#[40]⟩ := by decide
theorem str_shut : Bags.str ")" = bs ⟨#[41]⟩ := by decide

set_option maxRecDepth 100000 in
set_option maxHeartbeats 2000000 in
theorem round_any {c : Ctx} {N : Nat} (hI : IsOK c N) {k i j : Nat} (hk : k < 18) (hj1 : 1 ≤ j) (hj : j ≤ c.n) (hi : i ≤ 900) (hr : rank k (i + 1) (j - 1) < N) (w : World) (h : CS c w) :
    Calls Tryz.prog 110 #[.pointer (some ⟨c.C, 0, none⟩), .int .i64 k, .int .i64 i, .int .i64 j] w (RoundRes c (kOf k) i j w) := by
  have hn := h.pos.2
  have e1 : ((j - 1 : Nat) : Int) = (j : Int) - 1 := by omega
  have hS1 := sign_any c w h i ⟨#[40]⟩
  have hS2 := sign_any c w h (j - 1) ⟨#[41]⟩
  have hIS := hI k (i + 1) (j - 1) w hk hr (by omega) (by omega) h
  rw [e1] at hS2 hIS
  rw [show ((i + 1 : Nat) : Int) = (i : Int) + 1 by omega] at hIS
  unfold ptr at hS1 hS2
  rw [← str_open] at hS1
  rw [← str_shut] at hS2
  have HO := Lib.hid (show ∀ t, Bags.Rnd c.ws (kOf k) i j t → (Bags.wd c.ws i).is 5 [Bags.str "("] = true ∧ (Bags.wd c.ws (j - 1)).is 5 [Bags.str ")"] = true ∧ Bags.Der c.ws (kOf k) (i + 1) (j - 1) t from fun t h => ⟨h.1, h.2.1, h.2.2.2⟩)
  have HM := Lib.hid (show ∀ t, (Bags.wd c.ws i).is 5 [Bags.str "("] = true → (Bags.wd c.ws (j - 1)).is 5 [Bags.str ")"] = true → Bags.Der c.ws (kOf k) (i + 1) (j - 1) t → Bags.Rnd c.ws (kOf k) i j t from fun t h1 h2 h3 => ⟨h1, h2, hj, h3⟩)
  generalize (Bags.wd c.ws i).is 5 [Bags.str "("] = B1 at *
  generalize (Bags.wd c.ws (j - 1)).is 5 [Bags.str ")"] = B2 at *
  have H1 := Lib.hid hS1
  have H2 := Lib.hid hS2
  have H3 := Lib.hid hIS
  have HC := Lib.hid h
  clear hS1 hS2 hIS h e1
  cases B1
  · cases B2
    all_goals
      go_enter Tryz.func110, Tryz.ntmps110
      go_wp2_with fail
      refine H1.out.mono ?_
      rintro e w1 ⟨rfl, rfl⟩
      go_wp2_with fail
      refine H2.out.mono ?_
      rintro e w1 ⟨rfl, rfl⟩
      go_wp2_with fail
      go_ret
      exact ⟨HC.out, Fr.refl _ _, .inl ⟨rfl, fun ⟨t, h⟩ => by have := (HO.out t h).1; cases this⟩⟩
  · cases B2
    · go_enter Tryz.func110, Tryz.ntmps110
      go_wp2_with fail
      refine H1.out.mono ?_
      rintro e w1 ⟨rfl, rfl⟩
      go_wp2_with fail
      refine H2.out.mono ?_
      rintro e w1 ⟨rfl, rfl⟩
      go_wp2_with fail
      go_ret
      exact ⟨HC.out, Fr.refl _ _, .inl ⟨rfl, fun ⟨t, h⟩ => by have := (HO.out t h).2.1; cases this⟩⟩
    · go_enter Tryz.func110, Tryz.ntmps110
      go_wp2_with fail
      refine H1.out.mono ?_
      rintro e w1 ⟨rfl, rfl⟩
      go_wp2_with fail
      refine H2.out.mono ?_
      rintro e w1 ⟨rfl, rfl⟩
      go_wp2_with fail
      refine H3.out.mono ?_
      rintro e w1 ⟨hc, hf, ⟨rfl, hno⟩ | ⟨b, t, rfl, hb, ht, hd⟩⟩
      · have HX := Lib.hid (And.intro hc (And.intro hf hno))
        clear hc hf hno
        go_wp2_with fail
        go_ret
        exact ⟨HX.out.1, HX.out.2.1, .inl ⟨rfl, fun ⟨t, h⟩ => HX.out.2.2 ⟨t, (HO.out t h).2.2⟩⟩⟩
      · have HX := Lib.hid (And.intro hc (And.intro hf (And.intro ht hd)))
        clear hc hf ht hd
        go_wp2_with fail
        go_ret
        exact ⟨HX.out.1, HX.out.2.1, .inr ⟨b, t, rfl, hb, HX.out.2.2.1, HM.out t (by trivial) (by trivial) HX.out.2.2.2⟩⟩

/-! ### The memo -/
theorem mul_inj {a b m r s : Nat} (h : a * m + r = b * m + s) (hr : r < m) (hs : s < m) : a = b ∧ r = s := by
  rcases Nat.lt_trichotomy a b with h1 | h1 | h1
  · have := Nat.mul_le_mul_right m (show a + 1 ≤ b from h1)
    rw [Nat.add_mul, Nat.one_mul] at this
    omega
  · subst h1; exact ⟨rfl, by omega⟩
  · have := Nat.mul_le_mul_right m (show b + 1 ≤ a from h1)
    rw [Nat.add_mul, Nat.one_mul] at this
    omega
theorem at_inj {c : Ctx} {k i j k' i' j' : Nat} (hi : i ≤ c.n) (hj : j ≤ c.n) (hi' : i' ≤ c.n) (hj' : j' ≤ c.n) (h : c.at_ k i j = c.at_ k' i' j') : k = k' ∧ i = i' ∧ j = j' := by
  unfold Ctx.at_ at h
  obtain ⟨h1, h2⟩ := mul_inj h (by omega) (by omega)
  obtain ⟨h3, h4⟩ := mul_inj h1 (by omega) (by omega)
  exact ⟨h3, h4, h2⟩
theorem CS.put {c : Ctx} {w : World} (h : CS c w) {k i j : Nat} (hi : i ≤ c.n) (hj : j ≤ c.n) {v : Value} (hv : Memo c w k i j v) : CS c (w.setCell ⟨c.M, c.at_ k i j, none⟩ v) := by
  have hf : Fr (· = c.M) w (w.setCell ⟨c.M, c.at_ k i j, none⟩ v) := (Fr.refl (· = c.M) w).set (p := ⟨c.M, c.at_ k i j, none⟩) (.inr rfl) v
  obtain ⟨cur, hw1, hw2⟩ := h.words
  obtain ⟨ms, h1, h2, h3⟩ := h.memo
  refine ⟨h.blk.fr hf h.ne.1, ⟨cur, (hf.keep c.W (lt_of_some hw1) h.ne.2.1).trans hw1, hw2⟩, h.capn, ⟨_, h1.put _ v, by simpa using h2, fun k' i' j' a b d => ?_⟩, h.lt, h.ne, h.zero.imp fun t ⟨cs, h'⟩ => ⟨cs, h'.fr hf h.ne.2.2⟩, Nat.le_trans h.size hf.size, h.pos⟩
  obtain ⟨u, e1, e2⟩ := h3 k' i' j' a b d
  by_cases he : c.at_ k i j = c.at_ k' i' j'
  · obtain ⟨rfl, rfl, rfl⟩ := at_inj hi hj b d he
    have hlt : c.at_ k i j < ms.size := (Array.getElem?_eq_some_iff.1 e1).1
    exact ⟨v, by simp [hlt], hv.fr hf h.lt.2.2.1⟩
  · exact ⟨u, by rw [Array.getElem?_setIfInBounds, if_neg he]; exact e1, e2.fr hf h.lt.2.2.1⟩
theorem CS.put_fr {c : Ctx} {w : World} (p : Nat) (v : Value) : Fr (· = c.M) w (w.setCell ⟨c.M, p, none⟩ v) := (Fr.refl (· = c.M) w).set (p := ⟨c.M, p, none⟩) (.inr rfl) v
theorem at_lt {c : Ctx} {k i j : Nat} (hk : k < 18) (hi : i ≤ c.n) (hj : j ≤ c.n) : c.at_ k i j < 18 * (c.n + 1) * (c.n + 1) := by
  unfold Ctx.at_
  have h1 : k * (c.n + 1) + i < 18 * (c.n + 1) := by
    have := Nat.mul_le_mul_right (c.n + 1) (show k + 1 ≤ 18 by omega)
    rw [Nat.add_mul, Nat.one_mul] at this
    omega
  have := Nat.mul_le_mul_right (c.n + 1) (show k * (c.n + 1) + i + 1 ≤ 18 * (c.n + 1) by omega)
  rw [Nat.add_mul, Nat.one_mul] at this
  omega
theorem sq_le {n : Nat} (h : n ≤ 400) : 18 * (n + 1) * (n + 1) ≤ 2894418 := by
  have h1 : 18 * (n + 1) ≤ 18 * 401 := by omega
  have := Nat.mul_le_mul h1 (show n + 1 ≤ 401 by omega)
  omega

theorem info_tree : ∃ j, Tryz.prog.info? 64 = some j ∧ j.size ≠ 0 := by
  have h : (Tryz.prog.info? 64).map (·.size) = some 16 := by kernel_rfl
  cases hi : Tryz.prog.info? 64 with
  | none => rw [hi] at h; cases h
  | some j => rw [hi] at h; injection h with h; exact ⟨j, rfl, by rw [show j.size = 16 from h]; decide⟩
theorem eql_same (a : Nat) (w : World) : (binOp .eql 30 (.pointer (some ⟨a, 0, none⟩)) (.pointer (some ⟨a, 0, none⟩))).run Tryz.prog w = .ok (.bool true) w := by
  obtain ⟨j, hj, _⟩ := info_tree
  exact run_eql_ptr_same w _ Tryz.underlying30 hj
theorem eql_other {a b : Nat} {w : World} (hne : a ≠ b) (ha : ∃ t cs, Blk w a t cs) (hb : ∃ t cs, Blk w b t cs) : (binOp .eql 30 (.pointer (some ⟨a, 0, none⟩)) (.pointer (some ⟨b, 0, none⟩))).run Tryz.prog w = .ok (.bool false) w := by
  obtain ⟨j, hj, hz⟩ := info_tree
  obtain ⟨_, _, ha⟩ := ha
  obtain ⟨_, _, hb⟩ := hb
  exact run_eql_ptr_other w Tryz.underlying30 hj hz (fun e => hne (by injection e)) ha hb
theorem eql_nil (b : Nat) (w : World) : (binOp .eql 30 (.pointer none) (.pointer (some ⟨b, 0, none⟩))).run Tryz.prog w = .ok (.bool false) w := by
  have h : ∀ d : Nat, (Op.equalIn (d + 1) 30 (.pointer none) (.pointer (some ⟨b, 0, none⟩))).run Tryz.prog w = .ok false w := fun d => by
    simp [Op.equalIn, run_underlying Tryz.underlying30]
  simp only [binOp]
  simp [Op.equal, Op.maxDepth, h 9999]
theorem iwrap {a : Int} (h : 0 ≤ a ∧ a ≤ 9223372036854775807) : IntKind.i64.wrap a = a := IntWalk.i64_in _ (by omega)
set_option maxRecDepth 100000 in
set_option maxHeartbeats 4000000 in
theorem is_empty {c : Ctx} {k i j : Nat} (hn : ¬ (i < j ∧ j ≤ c.n)) (w : World) (h : CS c w) :
    Calls Tryz.prog 42 #[.pointer (some ⟨c.C, 0, none⟩), .int .i64 k, .int .i64 i, .int .i64 j] w (IsRes c (kOf k) i j w) := by
  have c1 := h.blk.cell 1
  simp at c1
  have HN := Lib.hid (show ¬ Bags.Has c.ws (kOf k) i j from fun h => hn ⟨h.lt, h.le⟩)
  have HC := Lib.hid h
  clear h
  by_cases hij : i < j
  · have hij' : ¬ (j : Int) ≤ (i : Int) := by omega
    have hjn : (c.n : Int) < (j : Int) := by omega
    clear hn
    go_enter Tryz.func42, Tryz.ntmps42
    go_wp2_with fail
    go_ret
    exact ⟨HC.out, Fr.refl _ _, .inl ⟨rfl, HN.out⟩⟩
  · have hij' : (j : Int) ≤ (i : Int) := by omega
    clear hn
    go_enter Tryz.func42, Tryz.ntmps42
    go_wp2_with fail
    go_ret
    exact ⟨HC.out, Fr.refl _ _, .inl ⟨rfl, HN.out⟩⟩

set_option maxRecDepth 100000 in
set_option maxHeartbeats 8000000 in
theorem is_step {c : Ctx} {k i j : Nat} (hk : k < 18) (hij : i < j) (hj : j ≤ c.n)
    (hL : ∀ w, CS c w → Calls Tryz.prog 66 #[.pointer (some ⟨c.C, 0, none⟩), .int .i64 k, .int .i64 i, .int .i64 j] w (IsRes c (kOf k) i j w)) (w : World) (h : CS c w) :
    Calls Tryz.prog 42 #[.pointer (some ⟨c.C, 0, none⟩), .int .i64 k, .int .i64 i, .int .i64 j] w (IsRes c (kOf k) i j w) := by
  have hn := h.pos.2
  have hsq := sq_le hn
  have hat := at_lt (c := c) hk (show i ≤ c.n by omega) hj
  have HCB := Lib.hid h.blk
  obtain ⟨ms, hms, hms2, hms3⟩ := h.memo
  obtain ⟨v, hv1, hv2⟩ := hms3 k i j hk (by omega) hj
  have m0 := hms.cell (c.at_ k i j)
  rw [hv1] at m0
  have HC := Lib.hid h
  have HL := Lib.hid hL
  have hblk := h.blk
  generalize hSZ : 18 * (c.n + 1) * (c.n + 1) = SZ at *
  have HSZ := Lib.hid hSZ
  have hA : (k * (c.n + 1) + i) * (c.n + 1) + j = c.at_ k i j := rfl
  have hC1 : ∃ N1 : Nat, N1 = c.n + 1 ∧ N1 ≤ 401 := ⟨_, rfl, by omega⟩
  obtain ⟨N1, hN1, hN2⟩ := hC1
  rw [← hN1] at hA
  have hK : k * N1 ≤ 7218 := by
    have := Nat.mul_le_mul (show k ≤ 18 by omega) hN2
    omega
  have hKI : (k * N1 + i) * N1 ≤ 3054818 := by
    have := Nat.mul_le_mul (show k * N1 + i ≤ 7618 by omega) hN2
    omega
  generalize hAt : c.at_ k i j = At at *
  have HAT := Lib.hid hAt
  have a1 : IntKind.i64.wrap ((c.n : Int) + 1) = (N1 : Int) := by rw [iwrap (by omega)]; omega
  have a2 : IntKind.i64.wrap ((k : Int) * (N1 : Int)) = ((k * N1 : Nat) : Int) := by rw [iwrap (by rw [← Int.natCast_mul]; omega), Int.natCast_mul]
  generalize k * N1 = K1 at *
  have a3 : IntKind.i64.wrap ((K1 : Int) + (i : Int)) = ((K1 + i : Nat) : Int) := by rw [iwrap (by omega)]; omega
  generalize K1 + i = I1 at *
  have a4 : IntKind.i64.wrap ((I1 : Int) * (N1 : Int)) = ((I1 * N1 : Nat) : Int) := by rw [iwrap (by rw [← Int.natCast_mul]; omega), Int.natCast_mul]
  generalize I1 * N1 = A1 at *
  have a5 : IntKind.i64.wrap ((A1 : Int) + (j : Int)) = (At : Int) := by rw [iwrap (by omega)]; omega
  have c0 := hblk.cell 0
  have c1 := hblk.cell 1
  have c2 := hblk.cell 2
  have c3 := hblk.cell 3
  unfold ptr at c3
  simp at c0 c1 c2 c3
  have hat0 : (0 : Int) ≤ (At : Int) := by omega
  have hat1 : (At : Int) < (SZ : Int) := by omega
  have hij' : ¬ (j : Int) ≤ (i : Int) := by omega
  have hjn : ¬ (c.n : Int) < (j : Int) := by omega
  have HMV := Lib.hid hv2
  clear hblk h hL hms hms2 hms3 hv1 hv2 hSZ hAt hA hN1 hsq
  go_enter Tryz.func42, Tryz.ntmps42
  go_wp2_with fail
  go_quiet (fail)
  have HC1 := Lib.hid (HC.out.below (⟨rfl, rfl, rfl, Nat.le_refl _, fun _ _ => rfl⟩ : Below w.heap.size w (w.drewN nq)))
  have HF1 := Lib.hid (⟨rfl, rfl, rfl, Nat.le_refl _, fun _ _ _ => rfl⟩ : Fr (· = c.M) w (w.drewN nq))
  rcases HMV.out with rfl | ⟨rfl, hno⟩ | ⟨b, t, rfl, hb, ht, hd⟩
  · go_wp2_with fail
    refine (HL.out _ HC1.out).mono ?_
    rintro e w1 ⟨hc, hf, h1⟩
    have HC2 := Lib.hid hc
    have HF2 := Lib.hid (HF1.out.trans hf (fun _ _ h => h))
    obtain ⟨ms2, hms, hz2, _⟩ := hc.memo
    have hblk := hc.blk
    have d0 := hblk.cell 0
    have d1 := hblk.cell 1
    have d2 := hblk.cell 2
    have d3 := hblk.cell 3
    unfold ptr at d3
    rw [HSZ.out] at d2
    simp at d0 d1 d2 d3
    have f0 := hms.free At
    rw [HSZ.out] at hz2
    have m1 := hms.cell At
    rw [Array.getElem?_eq_getElem (by omega)] at m1
    generalize ms2[At] = u at m1
    clear hc hf hms hblk
    have ne1 := HC.out.ne.1
    have e3 := fun u => ((HC2.out.blk.far (p := ⟨c.M, At, none⟩) ne1 u).cell 3)
    have e2 := fun u => ((HC2.out.blk.far (p := ⟨c.M, At, none⟩) ne1 u).cell 2)
    have e0 := fun u => ((HC2.out.blk.far (p := ⟨c.M, At, none⟩) ne1 u).cell 0)
    have ee3 := fun u u' => (((HC2.out.blk.far (p := ⟨c.M, At, none⟩) ne1 u).far (p := ⟨c.M, At, none⟩) ne1 u').cell 3)
    have ee2 := fun u u' => (((HC2.out.blk.far (p := ⟨c.M, At, none⟩) ne1 u).far (p := ⟨c.M, At, none⟩) ne1 u').cell 2)
    unfold ptr at e3 ee3
    rw [HSZ.out] at e2 ee2
    simp at e0 e2 e3 ee2 ee3
    have hq1 := fun W => eql_same c.Z W
    rcases h1 with ⟨rfl, hno⟩ | ⟨b, t, rfl, hb, ht, hd⟩
    · go_wp2_with fail
      go_region_held3 (fun w' => w'.cell? ⟨c.C, 2, none⟩ = some (.slice (some ⟨c.M, 0, none⟩) SZ SZ) ∧ w'.cell? ⟨c.C, 3, none⟩ = some (.pointer (some ⟨c.Z, 0, none⟩))) (first | exact ⟨e2 _, e3 _⟩ | exact ⟨ee2 _ _, ee3 _ _⟩ | go_keep) (fail)
      have hq3 := fun W => eql_nil c.Z W
      all_goals go_wp2_with fail
      go_ret
      refine ⟨?_, ((HF2.out.trans (CS.put_fr _ _) (fun _ _ h => h)).trans (CS.put_fr _ _) (fun _ _ h => h)).drew, .inl ⟨rfl, hno⟩⟩
      rw [← HAT.out]
      exact ((HC2.out.put (by omega) hj (.inl rfl)).put (by omega) hj (.inr (.inl ⟨rfl, hno⟩))).drew
    · have hq2 := fun u => eql_other (w := w1.setCell ⟨c.M, At, none⟩ u) (a := b) (b := c.Z) (by have := HC.out.lt.2.2.2; omega) (by obtain ⟨x, y, h⟩ := ht.blk; exact ⟨x, y, h.far (p := ⟨c.M, At, none⟩) (by have := HC.out.lt.2.2.1; show b ≠ c.M; omega) u⟩) (by obtain ⟨x, y, h⟩ := HC2.out.zero; exact ⟨x, y, h.far (p := ⟨c.M, At, none⟩) HC.out.ne.2.2 u⟩)
      have HT := Lib.hid (And.intro ht hd)
      clear ht hd
      go_wp2_with fail
      go_ret
      refine ⟨?_, HF2.out.trans (CS.put_fr _ _) (fun _ _ h => h), .inr ⟨b, t, rfl, hb, HT.out.1.fr (CS.put_fr _ _) HC.out.lt.2.2.1, HT.out.2⟩⟩
      rw [← HAT.out]
      exact HC2.out.put (by omega) hj (.inr (.inr ⟨b, t, rfl, hb, HT.out.1, HT.out.2⟩))
  · unfold ptr at m0
    have hq1 := fun W => eql_same c.Z W
    go_wp2_with fail
    go_ret
    exact ⟨HC1.out, HF1.out, .inl ⟨rfl, hno⟩⟩
  · unfold ptr at m0
    have hq2 := eql_other (w := w.drewN nq) (a := b) (b := c.Z) (by have := HC.out.lt.2.2.2; omega) (by obtain ⟨x, y, h⟩ := ht.blk; exact ⟨x, y, h⟩) (by obtain ⟨x, y, h⟩ := HC.out.zero; exact ⟨x, y, h⟩)
    have HT := Lib.hid (And.intro ht hd)
    clear ht hd
    go_wp2_with fail
    go_ret
    exact ⟨HC1.out, HF1.out, .inr ⟨b, t, rfl, hb, HT.out.1.fr HF1.out HC.out.lt.2.2.1, HT.out.2⟩⟩
end Go.Proofs.YtoephflcjllaaaaGreatDoor
