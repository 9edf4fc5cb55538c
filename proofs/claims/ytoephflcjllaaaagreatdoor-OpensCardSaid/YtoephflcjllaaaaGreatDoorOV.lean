/- Maps from names, as far as the walks ask. -/
import Derived.Test.YtoephflcjllaaaaGreatDoorOU
import Derived.Maps.OwnSet
import Derived.Maps.OwnOps
namespace Go.Proofs.YtoephflcjllaaaaGreatDoor
open Go.RowKit Go.Maps Go.WideMaps

abbrev DU := DataW Unit
/-- Which names a map has: each holds 'one'. -/
def Names (D : DU) (names : List Bags.Str) (one : DU) : Prop := (∀ s z, D.atKey (.string s) z = if names.contains s then one else z) ∧ Maps.size D = names.length
/-- Block M is a map with just these keys. -/
def MapIs (w : World) (R : Value → Option (DU × List MemPlace)) (M : Nat) (names : List Bags.Str) (one : DU) : Prop := ∃ D, w.ownsMap Tryz.prog 9 R M names.length D ∧ Names D names one
theorem keyed : Keyed Tryz.prog 9 := string_keyed Tryz.underlying9
theorem key_tx {s : Bags.Str} (hs : s.length ≤ 4000) : keyOf Tryz.prog 9 (.string (tx s)) = some (.string s) :=
  keyOf_string_mk Tryz.underlying9 (by rw [tx_size]; unfold maxLen; omega)
theorem isKey_string (s : Bags.Str) : WideAt.IsKeyLit (.string s) := by simp [WideAt.IsKeyLit]
theorem Names.none (one : DU) : Names (.map []) [] one := ⟨fun _ _ => rfl, rfl⟩
theorem Names.put {D : DU} {names : List Bags.Str} {one : DU} (h : Names D names one) (ht : Tidy D) {s : Bags.Str} (hs : names.contains s = false) : Names (D.put (.string s) one) (names ++ [s]) one := by
  obtain ⟨h1, h2⟩ := h
  refine ⟨fun x z => ?_, ?_⟩
  · by_cases hx : x = s
    · subst hx
      rw [atKey_put_same ht.isMap (isKey_string x)]
      simp
    · rw [atKey_put_other (by simpa using hx), h1 x z]
      have : (names ++ [s]).contains x = names.contains x := by
        rw [Bool.eq_iff_iff]; simp [hx]
      rw [this]
  · have hno : Maps.has D (.string s) = false := has_false_of_atKey fun z => by rw [h1, hs]; rfl
    rw [size_put ht, hno, h2]; simp
section
variable {w w' : World} {R : Value → Option (DU × List MemPlace)} {M : Nat} {names : List Bags.Str} {one : DU}
theorem MapIs.lt (h : MapIs w R M names one) : M < w.heap.size := by obtain ⟨D, h, _⟩ := h; exact h.lt
theorem MapIs.keep (h : MapIs w R M names one) (hh : w'.heap[M]? = w.heap[M]?) : MapIs w' R M names one := by
  obtain ⟨D, ⟨es, clock, hb, h1⟩, h2⟩ := h
  exact ⟨D, ⟨es, clock, hh.trans hb, h1⟩, h2⟩
theorem MapIs.alloc (h : MapIs w R M names one) (o : Obj) : MapIs (w.alloc o) R M names one := h.keep (Below.heap_alloc w o M h.lt)
theorem MapIs.set (h : MapIs w R M names one) {p : Addr} (hp : M ≠ p.block) (u : Value) : MapIs (w.setCell p u) R M names one := h.keep (Below.heap_setCell w p u M hp)
theorem MapIs.grown {row : Option Nat} (h : MapIs w R M names one) (hg : w.grownBy w' row) (hne : some M ≠ row) : MapIs w' R M names one := h.keep (hg.block M h.lt hne)
theorem MapIs.drewN (h : MapIs w R M names one) (n : Nat) : MapIs (w.drewN n) R M names one := h.keep rfl
theorem MapIs.drew (h : MapIs w R M names one) : MapIs w.drew R M names one := h.keep rfl
theorem MapIs.fr {S : Nat → Prop} (h : MapIs w R M names one) (hf : Fr S w w') (hS : ¬ S M) : MapIs w' R M names one := h.keep (hf.keep M h.lt hS)
theorem MapIs.made (w : World) (R : Value → Option (DU × List MemPlace)) (one : DU) : MapIs (w.alloc (.map #[] 0)) R w.heap.size [] one := ⟨_, World.ownsMap_made w _ _ R, Names.none one⟩
/-- No block of cells. -/
theorem MapIs.ne_blk (h : MapIs w R M names one) {g : Nat} {t : TypeId} {cs : Array Value} (hb : Blk w g t cs) : M ≠ g := by
  rintro rfl
  obtain ⟨D, ⟨es, clock, hm, _⟩, _⟩ := h
  unfold Blk at hb
  rw [hb] at hm; cases hm
theorem MapIs.ne_own (h : MapIs w R M names one) {base : Nat} {e : TypeId} {size n : Nat} {v : Value} {xs : List Value} (ho : w.ownsRow base e size v n xs) : v.ownBlock ≠ some M := by
  intro hg
  obtain ⟨D, ⟨es, clock, hm, _⟩, _⟩ := h
  obtain ⟨_, h2⟩ := ho
  rcases h2 with ⟨rfl, _⟩ | ⟨g', cap, cur, rfl, h3, h4, _⟩
  · simp [Value.ownBlock] at hg
  · simp [Value.ownBlock] at hg; subst hg; rw [h4] at hm; cases hm
end
noncomputable def intElem : Value → Option (DU × List MemPlace) := plainElem Tryz.prog 3
def oneInt : DU := .lit (.int .i64 1)
theorem MapIs.look_int {w : World} {M : Nat} {names : List Bags.Str} (h : MapIs w intElem M names oneInt) {s : Bags.Str} (hs : s.length ≤ 4000) :
    (Instr.lookup 114 (.map (some M)) (.string (tx s)) false).run Tryz.prog w = .ok (.int .i64 (if names.contains s then 1 else 0)) w := by
  obtain ⟨D, hown, hn, _⟩ := h
  obtain ⟨c, hrun, hat, _⟩ := hown.lookup_int keyed Tryz.underlying114 Tryz.underlying3 (by kernel_rfl) (key_tx hs)
  rw [hn] at hat
  rw [hrun]
  have hc' : c = if names.contains s = true then 1 else 0 := by
    by_cases hc : names.contains s = true
    · rw [if_pos hc] at hat ⊢
      simp only [oneInt, DataW.lit.injEq, Lit.int.injEq, true_and] at hat
      exact hat.symm
    · rw [if_neg hc] at hat ⊢
      simp only [DataW.lit.injEq, Lit.int.injEq, true_and] at hat
      exact hat.symm
  rw [hc']
/-- A pointer to a table, as a map's element. -/
def ptrElem : Value → Option (DU × List MemPlace)
  | .pointer (some _) => some (.lit (.bool true), [])
  | .pointer none => some (.lit (.bool false), [])
  | _ => none
def onePtr : DU := .lit (.bool true)
theorem MapIs.look_ptr {w : World} {M : Nat} {names : List Bags.Str} (h : MapIs w ptrElem M names onePtr) {s : Bags.Str} (hs : s.length ≤ 4000) :
    ∃ p, (Instr.lookup 69 (.map (some M)) (.string (tx s)) false).run Tryz.prog w = .ok (.pointer p) w ∧ p.isSome = names.contains s := by
  obtain ⟨D, hown, hn, _⟩ := h
  obtain ⟨v, ps, hrun, hR⟩ := hown.lookup keyed Tryz.underlying69 (z := .pointer none) (by kernel_rfl) (zd := .lit (.bool false)) (zp := []) rfl (key_tx hs)
  rw [hn] at hR
  cases v with
  | pointer p =>
    refine ⟨p, hrun, ?_⟩
    cases p with
    | none =>
      simp only [ptrElem, Option.some.injEq, Prod.mk.injEq] at hR
      cases hc : names.contains s
      · rfl
      · rw [hc] at hR; simp [onePtr] at hR
    | some q =>
      simp only [ptrElem, Option.some.injEq, Prod.mk.injEq] at hR
      cases hc : names.contains s
      · rw [hc] at hR; simp at hR
      · rfl
  | _ => simp [ptrElem] at hR
theorem key_unique {es : List MapEntry} (h : es.Pairwise fun x y => x.key ≠ y.key) {a b : MapEntry} (ha : a ∈ es) (hb : b ∈ es) (hk : a.key = b.key) : a = b := by
  induction es with
  | nil => cases ha
  | cons x r ih =>
    rw [List.pairwise_cons] at h
    rcases List.mem_cons.1 ha with e1 | ha' <;> rcases List.mem_cons.1 hb with e2 | hb'
    · rw [e1, e2]
    · subst e1; exact absurd hk (h.1 b hb')
    · subst e2; exact absurd hk.symm (h.1 a ha')
    · exact ih h.2 ha' hb'
/-- .. in every world that has the block as it is. -/
theorem MapIs.look_all {w : World} {M : Nat} {names : List Bags.Str} (h : MapIs w ptrElem M names onePtr) {s : Bags.Str} (hs : s.length ≤ 4000) :
    ∃ p : Option Addr, p.isSome = names.contains s ∧ ∀ w' : World, w'.heap[M]? = w.heap[M]? → (Instr.lookup 69 (.map (some M)) (.string (tx s)) false).run Tryz.prog w' = .ok (.pointer p) w' := by
  obtain ⟨p, hrun, hp⟩ := h.look_ptr hs
  refine ⟨p, hp, fun w' hw => ?_⟩
  obtain ⟨D, ⟨es, clock, hb, F, hsz, rfl⟩, hn⟩ := h
  have look := fun (W : World) (hW : W.heap[M]? = some (.map es clock)) => Maps.fit_look (R := ptrElem) false keyed Tryz.underlying69 (z := .pointer none) (show (zeroValue 76).run Tryz.prog W = .ok (.pointer none) W by kernel_rfl) hW F (key_tx hs)
  have key : ∀ {a b : Value} {W : World}, Result.ok (α := Value) a W = Result.ok b W → a = b := fun e => by injection e
  rcases look w hb with ⟨h1, h2, _⟩ | ⟨e0, y, h1, h2, h3, _⟩
  · have hp0 := key (hrun.symm.trans h1)
    rcases look w' (hw.trans hb) with ⟨g1, _, _⟩ | ⟨e1, y1, g1, g2, g3, _⟩
    · rw [g1]; simpa using hp0.symm
    · exact absurd g2 (h2 e1 g1)
  · have hp0 := key (hrun.symm.trans h3)
    rcases look w' (hw.trans hb) with ⟨g1, g2, _⟩ | ⟨e1, y1, g1, g2, g3, _⟩
    · exact absurd h2 (g2 e0 h1)
    · have : e1 = e0 := key_unique ((MapKept.stamped_iff es clock).1 F.stamped).2.2 g1 h1 (g2.trans h2.symm)
      subst this
      rw [g3]; simpa using hp0.symm
theorem MapIs.len {w : World} {M : Nat} {names : List Bags.Str} (h : MapIs w ptrElem M names onePtr) (ty : TypeId) : (Builtin.len_ #[69] ty #[.map (some M)]).run Tryz.prog w = .ok (.int .i64 names.length) w := by
  obtain ⟨D, hown, _, hn⟩ := h
  rw [hown.len Tryz.underlying69 ty, hn]
end Go.Proofs.YtoephflcjllaaaaGreatDoor
