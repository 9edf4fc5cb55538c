/- Walks: commas, core. -/
import Derived.Test.YtoephflcjllaaaaGreatDoorJ14
import Derived.Maps.AppendAt
namespace Go.Proofs.YtoephflcjllaaaaGreatDoor
open Go.RowKit
set_option linter.unusedVariables false

theorem wpList_append_at {P : Program} {ops : Array Oper} {rest : List Oper} {o : Oper} {a : Act} {Q : Exit → Act → World → Prop} (hgd : o.guard = none) (s x : Operand) {t : TypeId}
    (ho : o.op = .call { callee := .builtin .append, args := #[s, x], argTypes := #[t, t] })
    {base : Nat} {e : TypeId} {size bytes : Nat} (hE : Elem P t e size bytes) {w : World} {v : Value} {n : Nat} {xs : List Value} (hs : a.eval s = v) (hown : w.ownsRow base e size v n xs)
    {cs : Array Value} {g : Nat} (hx : a.eval x = .slice (some ⟨g, 0, none⟩) 1 1) (hg : w.heap.size = g) (hcs : cs.size = size) (h1 : ∀ u ∈ cs.toList, u.oneCell' = true)
    (h63 : n + 1 ≤ maxLen) (hbytes : (n + 1) * bytes ≤ 140737488355328) (hbase : base ≤ w.heap.size)
    (h : ∀ v' w', w'.ownsRow base e size v' (n + 1) (xs ++ cs.toList) → Fr (fun k => v.ownBlock = some k) w w' → (∀ g, v'.ownBlock = some g → v.ownBlock = some g ∨ w.heap.size ≤ g) → wpList P ops Q rest (a.put o.dst v') w') :
    wpList P ops Q (o :: rest) a (w.alloc (.cells cs e)) := by
  subst hg
  obtain ⟨i, z, hi, hz, hsz, hby, hzc⟩ := hE.parts
  have hblk := Blk.made w e cs
  refine wpList_plain hgd fun K hK => ?_
  obtain ⟨v', w', hrun, h2, h3, -, h5⟩ := run_append_own_at (P := P) (w.alloc (.cells cs e)) base t o.type e i z size bytes hE.sl hi hz hsz hby hzc hE.pos v n xs (hown.alloc _) ⟨w.heap.size, 0, none⟩ 1 1 cs.toList (by simp [hcs]) (by
    intro j u hu
    have : (⟨w.heap.size, 0, none⟩ : Addr).add j = ⟨w.heap.size, j, none⟩ := by unfold Addr.add; split <;> simp_all
    rw [this, hblk.cell j]
    simpa using hu) h1 h63 hbytes (by simp; omega)
  have hf : Fr (fun k => v.ownBlock = some k) w w' := ⟨h3.os, h3.tape, h3.output, Nat.le_trans (by simp) h3.size, fun k hk hne => (h3.block k (by simp; omega) (fun e => hne e.symm)).trans (Below.heap_alloc w _ k hk)⟩
  unfold Oper.wp
  simp [execOp, ho, resolve, invoke, builtin, hs, hx, hrun, Result.andThen]
  refine hK _ _ (h v' w' h2 hf fun g hg => ?_)
  rcases h5 with h5 | h5
  · exact .inl (h5 ▸ hg)
  · rw [h5] at hg
    simp at hg
    exact .inr (by omega)

/-- A list, as the parser builds it. -/
def listy : Bags.T → Prop
  | .none => True
  | .cons _ r => listy r
  | _ => False
theorem listy_snoc : ∀ {t x : Bags.T}, listy t → listy (t.snoc x)
  | .none, _, _ => trivial
  | .cons _ r, _, h => listy_snoc (t := r) h
theorem rep0_snoc {w : World} {P : Nat → Prop} {x : Bags.T} {l' : List Value} (hx : rep0 w P x l') : ∀ {t : Bags.T} {l : List Value}, listy t → rep0 w P t l → rep0 w P (t.snoc x) (l ++ l')
  | .none, l, _, h => by
    have : l = [] := h
    subst this
    exact ⟨l', [], by simp, hx, rfl⟩
  | .cons a r, l, hl, h => by
    obtain ⟨l1, l2, rfl, h1, h2⟩ := h
    exact ⟨l1, l2 ++ l', by simp, h1, rep0_snoc hx (t := r) hl h2⟩
theorem repCols_snoc {w : World} {P : Nat → Prop} {b : Nat} {o n : Bags.Str} (hb : P b) (hblk : Blk w b 229 #[.string (tx o), .string (tx n)]) : ∀ {t : Bags.T} {l : List Value}, listy t → repCols w P t l → repCols w P (t.snoc (.col o n)) (l ++ [.pointer (some ⟨b, 0, none⟩)])
  | .none, l, _, h => by
    have : l = [] := h
    subst this
    exact ⟨b, [], hb, rfl, hblk, rfl⟩
  | .cons a r, l, hl, h => by
    cases a with
    | col o' n' =>
      obtain ⟨b', l', h1, rfl, h3, h4⟩ := h
      exact ⟨b', l' ++ _, h1, by simp, h3, repCols_snoc hb hblk (t := r) hl h4⟩
    | _ => exact h.elim

abbrev Stable (R : World → (Nat → Prop) → Bags.T → List Value → Prop) : Prop := ∀ {w w' : World} {P P' : Nat → Prop} {S : Nat → Prop} (_ : Fr S w w') (_ : ∀ k, S k → ¬ P k) (_ : ∀ k, P k → k < w.heap.size → P' k) {t : Bags.T} {l : List Value}, R w P t l → R w' P' t l
theorem old_step {R : World → (Nat → Prop) → Bags.T → List Value → Prop} (hR : Stable R) {B r : Nat} {wr w4 w5 : World} {v v' : Value} {c : Bags.T} {cells : List Value} (h : R wr (fun b => B ≤ b ∧ v.ownBlock ≠ some b) c cells) (h34 : Fr (· = r) wr w4) (hr : r < B)
    (h45 : Fr (fun k => v.ownBlock = some k) w4 w5) (hnew : ∀ g, v'.ownBlock = some g → v.ownBlock = some g ∨ w4.heap.size ≤ g) : R w5 (fun b => B ≤ b ∧ v'.ownBlock ≠ some b) c cells := by
  have h1 : R w4 (fun b => B ≤ b ∧ v.ownBlock ≠ some b) c cells := hR h34 (fun k hk hp => by have := hp.1; omega) (fun k hk _ => hk) h
  exact hR h45 (fun k hk hp => hp.2 hk) (fun k hp hk => ⟨hp.1, fun e => (hnew k e).elim hp.2 (fun h => by omega)⟩) h1
theorem new_step {B B3 : Nat} {w4 w5 : World} {v v' : Value} {x : Bags.T} {l : List Value} (h : rep w4 B3 x l) (hB : B ≤ B3) (hv : ∀ g, v.ownBlock = some g → g < B3)
    (h45 : Fr (fun k => v.ownBlock = some k) w4 w5) (hnew : ∀ g, v'.ownBlock = some g → v.ownBlock = some g ∨ w4.heap.size ≤ g) : rep0 w5 (fun b => B ≤ b ∧ v'.ownBlock ≠ some b) x l :=
  rep0.fr h45 (fun k hk hp => by have := hv k hk; omega) (fun k hp hk => ⟨by omega, fun e => (hnew k e).elim (fun h => by have := hv k h; omega) (fun h => by omega)⟩) h
/-- A list's value: a row of the call's own. -/
def VL (e : TypeId) (sz : Nat) (R : World → (Nat → Prop) → Bags.T → List Value → Prop) (w : World) (B : Nat) (t : Bags.T) (v : Value) : Prop := ∃ n cells, w.ownsRow 0 e sz v n cells ∧ Own (fun b => B ≤ b) v ∧ R w (fun b => B ≤ b) t cells
theorem elem_item : Elem Tryz.prog 194 203 2 32 := ⟨Tryz.underlying194, by kernel_rfl, by decide⟩
theorem elem_source : Elem Tryz.prog 195 207 2 32 := ⟨Tryz.underlying195, by kernel_rfl, by decide⟩
theorem elem_column : Elem Tryz.prog 197 211 1 8 := ⟨Tryz.underlying197, by kernel_rfl, by decide⟩

set_option maxRecDepth 100000 in
set_option maxHeartbeats 2000000 in
theorem commas_item (hC : ContSaid) {r A : Nat} {ws : List Bags.W} (hz : ws.length ≤ 1000) {N : Nat} (hM : Meth 103 V2 .item N r A ws) {n : Nat} (hn : n ≤ N) {W : World} {i : Nat} (hr : Rdr W r A ws i) (hi : i ≤ ws.length) {y : Option (Bags.T × List Bags.W)}
    (hy : (Bags.par n .item (ws.drop i)).andThen (fun x r => Bags.par n (.itemsL (.cons x .none)) r) = some y) :
    Calls Tryz.prog 102 #[.pointer (some ⟨r, 0, none⟩), .func (.func 103) #[.pointer (some ⟨r, 0, none⟩)] #[]] W (Out r A ws (VL 203 2 rep0) W y) := by
  have HR0 := Lib.hid hr
  have HM := Lib.hid hM
  have hlt := hr.lt
  have hltA := hr.ltA
  rcases Bags.andThen_some hy with ⟨hp, rfl⟩ | ⟨c, rest, hp, hy0⟩
  · have HP := Lib.hid hp
    clear hr hy hM hp
    go_enter Tryz.func102, Tryz.ntmps102
    go_wp2_with (first | (go_at_call 103; refine (HM.out n (by omega) _ i _ trivial HR0.out (by omega) HP.out).mono ?_; rintro e w2 ⟨hG, rfl, hR⟩; have HR2 := Lib.hid hR; have HG2 := Lib.hid hG; clear hR hG))
    exact ⟨rfl, HG2.out, rfl, HR2.out⟩
  · have HP := Lib.hid hp
    have HY := Lib.hid hy0
    obtain ⟨j9, q1, q2, rfl⟩ := drop_of hp hi
    clear hr hy hy0 hM hp
    go_enter Tryz.func102, Tryz.ntmps102
    go_wp2_with (first | (go_at_call 103; refine (HM.out n (by omega) _ i _ trivial HR0.out (by omega) HP.out).mono ?_; rintro e w2 ⟨hG, x2, j2, rfl, ⟨a, b, rfl, hx, o1, o2⟩, hj2, hdr, hR⟩; have HR2 := Lib.hid hR; have HG2 := Lib.hid hG; clear hR hG; obtain rfl : j9 = j2 := drop_inj q2 hj2 hdr; have HX := Lib.hid (show rep _ _ _ _ from hx); clear hx))
    have hown0 : (w2.alloc (.cells #[a, b] 203)).ownsRow W.heap.size 203 2 (.slice (some ⟨w2.heap.size, 0, none⟩) 1 1) 1 (#[a, b]).toList :=
      ⟨by simp, .inr ⟨w2.heap.size, 1, _, rfl, HG2.out.size, Blk.made _ _ _, by decide, by decide, by simp, by simp⟩⟩
    have hfa := (Fr.refl (fun _ => False) w2).alloc (.cells #[a, b] 203)
    have HX0 := Lib.hid (show ∃ (c0 : Bags.T) (j0 m0 k0 : Nat) (cs0 : List Value), m0 ≤ n ∧ listy c0 ∧ (w2.alloc (.cells #[a, b] 203)).ownsRow W.heap.size 203 2 (.slice (some ⟨w2.heap.size, 0, none⟩) 1 1) k0 cs0 ∧ rep0 (w2.alloc (.cells #[a, b] 203)) (fun b => W.heap.size ≤ b ∧ Value.ownBlock (.slice (some ⟨w2.heap.size, 0, none⟩) 1 1) ≠ some b) c0 cs0 ∧ k0 ≤ j0 + 1 ∧ j0 ≤ ws.length ∧ Rdr (w2.alloc (.cells #[a, b] 203)) r A ws j0 ∧ Fr (· = r) W (w2.alloc (.cells #[a, b] 203)) ∧ Bags.par m0 (.itemsL c0) (ws.drop j0) = some y from
      ⟨.cons c .none, j9, n, 1, _, Nat.le_refl _, trivial, hown0, ⟨_, [], by simp, rep0.fr hfa (fun _ h => h.elim) (fun k hp hk => ⟨hp, by simp [Value.ownBlock]; omega⟩) HX.out, rfl⟩, by omega, hj2, HR2.out.alloc _, HG2.out.alloc _, HY.out⟩)
    clear HX HR2 HG2 HY HP hown0 hfa
    go_loopw [5] (fun v wr => ∃ (c0 : Bags.T) (j0 m0 k0 : Nat) (cs0 : List Value), m0 ≤ n ∧ listy c0 ∧ wr.ownsRow W.heap.size 203 2 v k0 cs0 ∧ rep0 wr (fun b => W.heap.size ≤ b ∧ Value.ownBlock v ≠ some b) c0 cs0 ∧ k0 ≤ j0 + 1 ∧ j0 ≤ ws.length ∧ Rdr wr r A ws j0 ∧ Fr (· = r) W wr ∧ Bags.par m0 (.itemsL c0) (ws.drop j0) = some y)
      (fun _ wr => ws.length + 1 - atOf wr r)
    case atStart => exact HX0.out
    case round =>
      clear HX0 hj2 hdr
      obtain ⟨c, j, m, kk, cells, hm, hls, hown, hx, hk, hj, hR, hfr, hy⟩ := hrel
      have HX := Lib.hid hx
      have HO := Lib.hid hown
      have HR := Lib.hid hR
      have HG := Lib.hid hfr
      clear hx hR hfr hown
      cases m with
      | zero => simp [Bags.par] at hy
      | succ m =>
        rw [Bags.par] at hy
        simp only [List.tail_drop] at hy
        cases h1 : (Bags.hd (ws.drop j)).is 5 [Bags.str ","]
        · rw [if_neg (by simp [h1])] at hy
          have H1 := Lib.hid (show isT (Bags.hd (ws.drop j)) 5 [Bags.str ","] = false from h1)
          have HY := Lib.hid hy
          clear hy h1
          go_wp2_with (first | (go_at_call 83; refine (takes_no hC HR.out hj (by omega) H1.out (by decide) (by decide) rfl (by first | rfl | simp) rfl).mono ?_; rintro e w2 ⟨rfl, hR, hG⟩; have HR2 := Lib.hid hR; have HG2 := Lib.hid hG; clear hR hG))
          go_ret
          obtain ⟨rfl⟩ : some (c, ws.drop j) = y := by simpa [Bags.ok] using HY.out
          have hb : ∀ g, Value.ownBlock _ = some g → g < _ ∧ W.heap.size ≤ g := fun g hg => own_size HO.out hg
          exact ⟨HG.out.t HG2.out, _, j, rfl, ⟨kk, cells, ownsRow_fr HO.out HG2.out (fun k hk e => by have := (hb _ e).2; omega) (fun _ _ _ => Nat.zero_le _), fun g hg => (hb g hg).2, rep0.fr HG2.out (fun k hk hp => by have := hp.1; omega) (fun k hp _ => hp.1) HX.out⟩, hj, rfl, HR2.out⟩
        · rw [if_pos h1] at hy
          have hj1 := lt_of_is h1 (by decide)
          have H1 := Lib.hid (show isT (Bags.hd (ws.drop j)) 5 [Bags.str ","] = true from h1)
          clear h1
          rcases Bags.andThen_some hy with ⟨hp, rfl⟩ | ⟨b0, rest, hp, hy2⟩
          · have HP := Lib.hid hp
            clear hp
            go_wp2_with (first | (go_at_call 83; refine (takes_yes hC HR.out hj (by omega) H1.out (by decide) (by decide) rfl (by first | rfl | simp) rfl).mono ?_; rintro e w2 ⟨rfl, hR, hG⟩; have HR2 := Lib.hid hR; have HG2 := Lib.hid hG; clear hR hG) | (go_at_call 103; refine (HM.out m (by omega) _ (j + 1) _ trivial HR2.out (by omega) HP.out).mono ?_; rintro e w3 ⟨hG, rfl, hR⟩; have HR3 := Lib.hid hR; have HG3 := Lib.hid hG; clear hR hG))
            exact ⟨rfl, (HG.out.t HG2.out).t HG3.out, rfl, HR3.out⟩
          · obtain ⟨j9, q1, q2, rfl⟩ := drop_of hp (by omega)
            have HP := Lib.hid hp
            have HY := Lib.hid hy2
            have hkj : kk + 1 ≤ j9 + 1 := by omega
            clear hp hy hy2
            go_wp2_with (first | (go_at_call 83; refine (takes_yes hC HR.out hj (by omega) H1.out (by decide) (by decide) rfl (by first | rfl | simp) rfl).mono ?_; rintro e w2 ⟨rfl, hR, hG⟩; have HR2 := Lib.hid hR; have HG2 := Lib.hid hG; clear hR hG) | (go_at_call 103; refine (HM.out m (by omega) _ (j + 1) _ trivial HR2.out (by omega) HP.out).mono ?_; rintro e w3 ⟨hG, x3, j3, rfl, ⟨a, b, rfl, hx, o1, o2⟩, hj3, hdr, hR⟩; have HR3 := Lib.hid hR; have HG3 := Lib.hid hG; clear hR hG; obtain rfl : j9 = j3 := drop_inj q2 hj3 hdr; have HZ := Lib.hid (show rep _ _ _ _ from hx); clear hx) | (at_builtin; refine wpList_append_at rfl _ _ rfl (base := W.heap.size) elem_item rfl (ownsRow_fr HO.out (HG2.out.t HG3.out) (fun k hk e => by have := (own_size HO.out e).2; omega) (fun _ _ h => h)) (cs := #[a, b]) rfl rfl rfl (by simp [o1, o2]) (by unfold maxLen; omega) (by omega) (((HG.out.t HG2.out).t HG3.out).size) ?_; intro v' w5 hown5 hf5 hn5; have HA := Lib.hid (And.intro hown5 (And.intro hf5 hn5)); clear hown5 hf5 hn5))
            obtain ⟨hA1, hA2, hA3⟩ := HA.out
            have hlow : ∀ g, Value.ownBlock u5 = some g → g < wr.heap.size ∧ W.heap.size ≤ g := fun g hg => own_size HO.out hg
            have hR5 := HR3.out.fr hA2 (fun e => by have := (hlow _ e).2; omega) (fun e => by have := (hlow _ e).2; omega)
            have hat := hR5.atOf
            have hat' := HR.out.atOf
            have hs2 := HG2.out.size
            have hs0 := HG.out.size
            refine ⟨⟨c.snoc b0, j9, m, kk + 1, _, by omega, listy_snoc hls, hA1, rep0_snoc (new_step HZ.out (by omega) (fun g hg => by have := (hlow g hg).1; omega) hA2 hA3) hls (old_step rep0.fr HX.out (HG2.out.t HG3.out) hlt hA2 hA3), hkj, hj3, hR5, new_fr ((HG.out.t HG2.out).t HG3.out) hA2 (fun k hk => .inr (hlow _ hk).2), HY.out⟩, by omega⟩

set_option maxRecDepth 100000 in
set_option maxHeartbeats 2000000 in
theorem commas_source (hC : ContSaid) {r A : Nat} {ws : List Bags.W} (hz : ws.length ≤ 1000) {N : Nat} (hM : Meth 105 V2 .source N r A ws) {n : Nat} (hn : n ≤ N) {W : World} {i : Nat} (hr : Rdr W r A ws i) (hi : i ≤ ws.length) {y : Option (Bags.T × List Bags.W)}
    (hy : (Bags.par n .source (ws.drop i)).andThen (fun x r => Bags.par n (.sourcesL (.cons x .none)) r) = some y) :
    Calls Tryz.prog 104 #[.pointer (some ⟨r, 0, none⟩), .func (.func 105) #[.pointer (some ⟨r, 0, none⟩)] #[]] W (Out r A ws (VL 207 2 rep0) W y) := by
  have HR0 := Lib.hid hr
  have HM := Lib.hid hM
  have hlt := hr.lt
  have hltA := hr.ltA
  rcases Bags.andThen_some hy with ⟨hp, rfl⟩ | ⟨c, rest, hp, hy0⟩
  · have HP := Lib.hid hp
    clear hr hy hM hp
    go_enter Tryz.func104, Tryz.ntmps104
    go_wp2_with (first | (go_at_call 105; refine (HM.out n (by omega) _ i _ trivial HR0.out (by omega) HP.out).mono ?_; rintro e w2 ⟨hG, rfl, hR⟩; have HR2 := Lib.hid hR; have HG2 := Lib.hid hG; clear hR hG))
    exact ⟨rfl, HG2.out, rfl, HR2.out⟩
  · have HP := Lib.hid hp
    have HY := Lib.hid hy0
    obtain ⟨j9, q1, q2, rfl⟩ := drop_of hp hi
    clear hr hy hy0 hM hp
    go_enter Tryz.func104, Tryz.ntmps104
    go_wp2_with (first | (go_at_call 105; refine (HM.out n (by omega) _ i _ trivial HR0.out (by omega) HP.out).mono ?_; rintro e w2 ⟨hG, x2, j2, rfl, ⟨a, b, rfl, hx, o1, o2⟩, hj2, hdr, hR⟩; have HR2 := Lib.hid hR; have HG2 := Lib.hid hG; clear hR hG; obtain rfl : j9 = j2 := drop_inj q2 hj2 hdr; have HX := Lib.hid (show rep _ _ _ _ from hx); clear hx))
    have hown0 : (w2.alloc (.cells #[a, b] 207)).ownsRow W.heap.size 207 2 (.slice (some ⟨w2.heap.size, 0, none⟩) 1 1) 1 (#[a, b]).toList :=
      ⟨by simp, .inr ⟨w2.heap.size, 1, _, rfl, HG2.out.size, Blk.made _ _ _, by decide, by decide, by simp, by simp⟩⟩
    have hfa := (Fr.refl (fun _ => False) w2).alloc (.cells #[a, b] 207)
    have HX0 := Lib.hid (show ∃ (c0 : Bags.T) (j0 m0 k0 : Nat) (cs0 : List Value), m0 ≤ n ∧ listy c0 ∧ (w2.alloc (.cells #[a, b] 207)).ownsRow W.heap.size 207 2 (.slice (some ⟨w2.heap.size, 0, none⟩) 1 1) k0 cs0 ∧ rep0 (w2.alloc (.cells #[a, b] 207)) (fun b => W.heap.size ≤ b ∧ Value.ownBlock (.slice (some ⟨w2.heap.size, 0, none⟩) 1 1) ≠ some b) c0 cs0 ∧ k0 ≤ j0 + 1 ∧ j0 ≤ ws.length ∧ Rdr (w2.alloc (.cells #[a, b] 207)) r A ws j0 ∧ Fr (· = r) W (w2.alloc (.cells #[a, b] 207)) ∧ Bags.par m0 (.sourcesL c0) (ws.drop j0) = some y from
      ⟨.cons c .none, j9, n, 1, _, Nat.le_refl _, trivial, hown0, ⟨_, [], by simp, rep0.fr hfa (fun _ h => h.elim) (fun k hp hk => ⟨hp, by simp [Value.ownBlock]; omega⟩) HX.out, rfl⟩, by omega, hj2, HR2.out.alloc _, HG2.out.alloc _, HY.out⟩)
    clear HX HR2 HG2 HY HP hown0 hfa
    go_loopw [5] (fun v wr => ∃ (c0 : Bags.T) (j0 m0 k0 : Nat) (cs0 : List Value), m0 ≤ n ∧ listy c0 ∧ wr.ownsRow W.heap.size 207 2 v k0 cs0 ∧ rep0 wr (fun b => W.heap.size ≤ b ∧ Value.ownBlock v ≠ some b) c0 cs0 ∧ k0 ≤ j0 + 1 ∧ j0 ≤ ws.length ∧ Rdr wr r A ws j0 ∧ Fr (· = r) W wr ∧ Bags.par m0 (.sourcesL c0) (ws.drop j0) = some y)
      (fun _ wr => ws.length + 1 - atOf wr r)
    case atStart => exact HX0.out
    case round =>
      clear HX0 hj2 hdr
      obtain ⟨c, j, m, kk, cells, hm, hls, hown, hx, hk, hj, hR, hfr, hy⟩ := hrel
      have HX := Lib.hid hx
      have HO := Lib.hid hown
      have HR := Lib.hid hR
      have HG := Lib.hid hfr
      clear hx hR hfr hown
      cases m with
      | zero => simp [Bags.par] at hy
      | succ m =>
        rw [Bags.par] at hy
        simp only [List.tail_drop] at hy
        cases h1 : (Bags.hd (ws.drop j)).is 5 [Bags.str ","]
        · rw [if_neg (by simp [h1])] at hy
          have H1 := Lib.hid (show isT (Bags.hd (ws.drop j)) 5 [Bags.str ","] = false from h1)
          have HY := Lib.hid hy
          clear hy h1
          go_wp2_with (first | (go_at_call 83; refine (takes_no hC HR.out hj (by omega) H1.out (by decide) (by decide) rfl (by first | rfl | simp) rfl).mono ?_; rintro e w2 ⟨rfl, hR, hG⟩; have HR2 := Lib.hid hR; have HG2 := Lib.hid hG; clear hR hG))
          go_ret
          obtain ⟨rfl⟩ : some (c, ws.drop j) = y := by simpa [Bags.ok] using HY.out
          have hb : ∀ g, Value.ownBlock _ = some g → g < _ ∧ W.heap.size ≤ g := fun g hg => own_size HO.out hg
          exact ⟨HG.out.t HG2.out, _, j, rfl, ⟨kk, cells, ownsRow_fr HO.out HG2.out (fun k hk e => by have := (hb _ e).2; omega) (fun _ _ _ => Nat.zero_le _), fun g hg => (hb g hg).2, rep0.fr HG2.out (fun k hk hp => by have := hp.1; omega) (fun k hp _ => hp.1) HX.out⟩, hj, rfl, HR2.out⟩
        · rw [if_pos h1] at hy
          have hj1 := lt_of_is h1 (by decide)
          have H1 := Lib.hid (show isT (Bags.hd (ws.drop j)) 5 [Bags.str ","] = true from h1)
          clear h1
          rcases Bags.andThen_some hy with ⟨hp, rfl⟩ | ⟨b0, rest, hp, hy2⟩
          · have HP := Lib.hid hp
            clear hp
            go_wp2_with (first | (go_at_call 83; refine (takes_yes hC HR.out hj (by omega) H1.out (by decide) (by decide) rfl (by first | rfl | simp) rfl).mono ?_; rintro e w2 ⟨rfl, hR, hG⟩; have HR2 := Lib.hid hR; have HG2 := Lib.hid hG; clear hR hG) | (go_at_call 105; refine (HM.out m (by omega) _ (j + 1) _ trivial HR2.out (by omega) HP.out).mono ?_; rintro e w3 ⟨hG, rfl, hR⟩; have HR3 := Lib.hid hR; have HG3 := Lib.hid hG; clear hR hG))
            exact ⟨rfl, (HG.out.t HG2.out).t HG3.out, rfl, HR3.out⟩
          · obtain ⟨j9, q1, q2, rfl⟩ := drop_of hp (by omega)
            have HP := Lib.hid hp
            have HY := Lib.hid hy2
            have hkj : kk + 1 ≤ j9 + 1 := by omega
            clear hp hy hy2
            go_wp2_with (first | (go_at_call 83; refine (takes_yes hC HR.out hj (by omega) H1.out (by decide) (by decide) rfl (by first | rfl | simp) rfl).mono ?_; rintro e w2 ⟨rfl, hR, hG⟩; have HR2 := Lib.hid hR; have HG2 := Lib.hid hG; clear hR hG) | (go_at_call 105; refine (HM.out m (by omega) _ (j + 1) _ trivial HR2.out (by omega) HP.out).mono ?_; rintro e w3 ⟨hG, x3, j3, rfl, ⟨a, b, rfl, hx, o1, o2⟩, hj3, hdr, hR⟩; have HR3 := Lib.hid hR; have HG3 := Lib.hid hG; clear hR hG; obtain rfl : j9 = j3 := drop_inj q2 hj3 hdr; have HZ := Lib.hid (show rep _ _ _ _ from hx); clear hx) | (at_builtin; refine wpList_append_at rfl _ _ rfl (base := W.heap.size) elem_source rfl (ownsRow_fr HO.out (HG2.out.t HG3.out) (fun k hk e => by have := (own_size HO.out e).2; omega) (fun _ _ h => h)) (cs := #[a, b]) rfl rfl rfl (by simp [o1, o2]) (by unfold maxLen; omega) (by omega) (((HG.out.t HG2.out).t HG3.out).size) ?_; intro v' w5 hown5 hf5 hn5; have HA := Lib.hid (And.intro hown5 (And.intro hf5 hn5)); clear hown5 hf5 hn5))
            obtain ⟨hA1, hA2, hA3⟩ := HA.out
            have hlow : ∀ g, Value.ownBlock u5 = some g → g < wr.heap.size ∧ W.heap.size ≤ g := fun g hg => own_size HO.out hg
            have hR5 := HR3.out.fr hA2 (fun e => by have := (hlow _ e).2; omega) (fun e => by have := (hlow _ e).2; omega)
            have hat := hR5.atOf
            have hat' := HR.out.atOf
            have hs2 := HG2.out.size
            have hs0 := HG.out.size
            refine ⟨⟨c.snoc b0, j9, m, kk + 1, _, by omega, listy_snoc hls, hA1, rep0_snoc (new_step HZ.out (by omega) (fun g hg => by have := (hlow g hg).1; omega) hA2 hA3) hls (old_step rep0.fr HX.out (HG2.out.t HG3.out) hlt hA2 hA3), hkj, hj3, hR5, new_fr ((HG.out.t HG2.out).t HG3.out) hA2 (fun k hk => .inr (hlow _ hk).2), HY.out⟩, by omega⟩

set_option maxRecDepth 100000 in
set_option maxHeartbeats 2000000 in
theorem commas_column (hC : ContSaid) {r A : Nat} {ws : List Bags.W} (hz : ws.length ≤ 1000) {N : Nat} (hM : Meth 108 VC .col N r A ws) {n : Nat} (hn : n ≤ N) {W : World} {i : Nat} (hr : Rdr W r A ws i) (hi : i ≤ ws.length) {y : Option (Bags.T × List Bags.W)}
    (hy : (Bags.par n .col (ws.drop i)).andThen (fun x r => Bags.par n (.colsL (.cons x .none)) r) = some y) :
    Calls Tryz.prog 107 #[.pointer (some ⟨r, 0, none⟩), .func (.func 108) #[.pointer (some ⟨r, 0, none⟩)] #[]] W (Out r A ws (VL 211 1 repCols) W y) := by
  have HR0 := Lib.hid hr
  have HM := Lib.hid hM
  have hlt := hr.lt
  have hltA := hr.ltA
  rcases Bags.andThen_some hy with ⟨hp, rfl⟩ | ⟨c, rest, hp, hy0⟩
  · have HP := Lib.hid hp
    clear hr hy hM hp
    go_enter Tryz.func107, Tryz.ntmps107
    go_wp2_with (first | (go_at_call 108; refine (HM.out n (by omega) _ i _ trivial HR0.out (by omega) HP.out).mono ?_; rintro e w2 ⟨hG, rfl, hR⟩; have HR2 := Lib.hid hR; have HG2 := Lib.hid hG; clear hR hG))
    exact ⟨rfl, HG2.out, rfl, HR2.out⟩
  · have HP := Lib.hid hp
    have HY := Lib.hid hy0
    obtain ⟨j9, q1, q2, rfl⟩ := drop_of hp hi
    clear hr hy hy0 hM hp
    go_enter Tryz.func107, Tryz.ntmps107
    go_wp2_with (first | (go_at_call 108; refine (HM.out n (by omega) _ i _ trivial HR0.out (by omega) HP.out).mono ?_; rintro e w2 ⟨hG, x2, j2, rfl, ⟨b, o, nm, hb, rfl, rfl, hx⟩, hj2, hdr, hR⟩; have HR2 := Lib.hid hR; have HG2 := Lib.hid hG; clear hR hG; obtain rfl : j9 = j2 := drop_inj q2 hj2 hdr; have HX := Lib.hid (And.intro hb hx); clear hb hx))
    have hown0 : (w2.alloc (.cells #[.pointer (some ⟨b, 0, none⟩)] 211)).ownsRow W.heap.size 211 1 (.slice (some ⟨w2.heap.size, 0, none⟩) 1 1) 1 (#[.pointer (some ⟨b, 0, none⟩)]).toList :=
      ⟨by simp, .inr ⟨w2.heap.size, 1, _, rfl, HG2.out.size, Blk.made _ _ _, by decide, by decide, by simp, by simp⟩⟩
    have hfa := (Fr.refl (fun _ => False) w2).alloc (.cells #[.pointer (some ⟨b, 0, none⟩)] 211)
    have HX0 := Lib.hid (show ∃ (c0 : Bags.T) (j0 m0 k0 : Nat) (cs0 : List Value), m0 ≤ n ∧ listy c0 ∧ (w2.alloc (.cells #[.pointer (some ⟨b, 0, none⟩)] 211)).ownsRow W.heap.size 211 1 (.slice (some ⟨w2.heap.size, 0, none⟩) 1 1) k0 cs0 ∧ repCols (w2.alloc (.cells #[.pointer (some ⟨b, 0, none⟩)] 211)) (fun b => W.heap.size ≤ b ∧ Value.ownBlock (.slice (some ⟨w2.heap.size, 0, none⟩) 1 1) ≠ some b) c0 cs0 ∧ k0 ≤ j0 + 1 ∧ j0 ≤ ws.length ∧ Rdr (w2.alloc (.cells #[.pointer (some ⟨b, 0, none⟩)] 211)) r A ws j0 ∧ Fr (· = r) W (w2.alloc (.cells #[.pointer (some ⟨b, 0, none⟩)] 211)) ∧ Bags.par m0 (.colsL c0) (ws.drop j0) = some y from
      ⟨.cons (.col o nm) .none, j9, n, 1, _, Nat.le_refl _, trivial, hown0, ⟨b, [], ⟨HX.out.1, by have := HX.out.2.lt; simp [Value.ownBlock]; omega⟩, rfl, HX.out.2.alloc _, rfl⟩, by omega, hj2, HR2.out.alloc _, HG2.out.alloc _, HY.out⟩)
    clear HX HR2 HG2 HY HP hown0 hfa
    go_loopw [5] (fun v wr => ∃ (c0 : Bags.T) (j0 m0 k0 : Nat) (cs0 : List Value), m0 ≤ n ∧ listy c0 ∧ wr.ownsRow W.heap.size 211 1 v k0 cs0 ∧ repCols wr (fun b => W.heap.size ≤ b ∧ Value.ownBlock v ≠ some b) c0 cs0 ∧ k0 ≤ j0 + 1 ∧ j0 ≤ ws.length ∧ Rdr wr r A ws j0 ∧ Fr (· = r) W wr ∧ Bags.par m0 (.colsL c0) (ws.drop j0) = some y)
      (fun _ wr => ws.length + 1 - atOf wr r)
    case atStart => exact HX0.out
    case round =>
      clear HX0 hj2 hdr
      obtain ⟨c, j, m, kk, cells, hm, hls, hown, hx, hk, hj, hR, hfr, hy⟩ := hrel
      have HX := Lib.hid hx
      have HO := Lib.hid hown
      have HR := Lib.hid hR
      have HG := Lib.hid hfr
      clear hx hR hfr hown
      cases m with
      | zero => simp [Bags.par] at hy
      | succ m =>
        rw [Bags.par] at hy
        simp only [List.tail_drop] at hy
        cases h1 : (Bags.hd (ws.drop j)).is 5 [Bags.str ","]
        · rw [if_neg (by simp [h1])] at hy
          have H1 := Lib.hid (show isT (Bags.hd (ws.drop j)) 5 [Bags.str ","] = false from h1)
          have HY := Lib.hid hy
          clear hy h1
          go_wp2_with (first | (go_at_call 83; refine (takes_no hC HR.out hj (by omega) H1.out (by decide) (by decide) rfl (by first | rfl | simp) rfl).mono ?_; rintro e w2 ⟨rfl, hR, hG⟩; have HR2 := Lib.hid hR; have HG2 := Lib.hid hG; clear hR hG))
          go_ret
          obtain ⟨rfl⟩ : some (c, ws.drop j) = y := by simpa [Bags.ok] using HY.out
          have hb : ∀ g, Value.ownBlock _ = some g → g < _ ∧ W.heap.size ≤ g := fun g hg => own_size HO.out hg
          exact ⟨HG.out.t HG2.out, _, j, rfl, ⟨kk, cells, ownsRow_fr HO.out HG2.out (fun k hk e => by have := (hb _ e).2; omega) (fun _ _ _ => Nat.zero_le _), fun g hg => (hb g hg).2, repCols.fr HG2.out (fun k hk hp => by have := hp.1; omega) (fun k hp _ => hp.1) HX.out⟩, hj, rfl, HR2.out⟩
        · rw [if_pos h1] at hy
          have hj1 := lt_of_is h1 (by decide)
          have H1 := Lib.hid (show isT (Bags.hd (ws.drop j)) 5 [Bags.str ","] = true from h1)
          clear h1
          rcases Bags.andThen_some hy with ⟨hp, rfl⟩ | ⟨b0, rest, hp, hy2⟩
          · have HP := Lib.hid hp
            clear hp
            go_wp2_with (first | (go_at_call 83; refine (takes_yes hC HR.out hj (by omega) H1.out (by decide) (by decide) rfl (by first | rfl | simp) rfl).mono ?_; rintro e w2 ⟨rfl, hR, hG⟩; have HR2 := Lib.hid hR; have HG2 := Lib.hid hG; clear hR hG) | (go_at_call 108; refine (HM.out m (by omega) _ (j + 1) _ trivial HR2.out (by omega) HP.out).mono ?_; rintro e w3 ⟨hG, rfl, hR⟩; have HR3 := Lib.hid hR; have HG3 := Lib.hid hG; clear hR hG))
            exact ⟨rfl, (HG.out.t HG2.out).t HG3.out, rfl, HR3.out⟩
          · obtain ⟨j9, q1, q2, rfl⟩ := drop_of hp (by omega)
            have HP := Lib.hid hp
            have HY := Lib.hid hy2
            have hkj : kk + 1 ≤ j9 + 1 := by omega
            clear hp hy hy2
            go_wp2_with (first | (go_at_call 83; refine (takes_yes hC HR.out hj (by omega) H1.out (by decide) (by decide) rfl (by first | rfl | simp) rfl).mono ?_; rintro e w2 ⟨rfl, hR, hG⟩; have HR2 := Lib.hid hR; have HG2 := Lib.hid hG; clear hR hG) | (go_at_call 108; refine (HM.out m (by omega) _ (j + 1) _ trivial HR2.out (by omega) HP.out).mono ?_; rintro e w3 ⟨hG, x3, j3, rfl, ⟨b, o, nm, hb, rfl, rfl, hx⟩, hj3, hdr, hR⟩; have HR3 := Lib.hid hR; have HG3 := Lib.hid hG; clear hR hG; obtain rfl : j9 = j3 := drop_inj q2 hj3 hdr; have HZ := Lib.hid (And.intro hb hx); clear hb hx) | (at_builtin; refine wpList_append_at rfl _ _ rfl (base := W.heap.size) elem_column rfl (ownsRow_fr HO.out (HG2.out.t HG3.out) (fun k hk e => by have := (own_size HO.out e).2; omega) (fun _ _ h => h)) (cs := #[.pointer (some ⟨b, 0, none⟩)]) rfl rfl rfl (by simp [Value.oneCell']) (by unfold maxLen; omega) (by omega) (((HG.out.t HG2.out).t HG3.out).size) ?_; intro v' w5 hown5 hf5 hn5; have HA := Lib.hid (And.intro hown5 (And.intro hf5 hn5)); clear hown5 hf5 hn5))
            obtain ⟨hA1, hA2, hA3⟩ := HA.out
            have hlow : ∀ g, Value.ownBlock u5 = some g → g < wr.heap.size ∧ W.heap.size ≤ g := fun g hg => own_size HO.out hg
            have hR5 := HR3.out.fr hA2 (fun e => by have := (hlow _ e).2; omega) (fun e => by have := (hlow _ e).2; omega)
            have hat := hR5.atOf
            have hat' := HR.out.atOf
            have hs2 := HG2.out.size
            have hs0 := HG.out.size
            refine ⟨⟨c.snoc (.col o nm), j9, m, kk + 1, _, by omega, listy_snoc hls, hA1, repCols_snoc (b := b) (o := o) (n := nm) ⟨by have := HZ.out.1; omega, fun e => by have h1 := HZ.out.1; have h2 := HZ.out.2.lt; exact (hA3 _ e).elim (fun h => by have := (hlow _ h).1; omega) (fun h => by omega)⟩ (HZ.out.2.fr hA2 (fun e => by have := (hlow _ e).1; have := HZ.out.1; omega)) hls (old_step repCols.fr HX.out (HG2.out.t HG3.out) hlt hA2 hA3), hkj, hj3, hR5, new_fr ((HG.out.t HG2.out).t HG3.out) hA2 (fun k hk => .inr (hlow _ hk).2), HY.out⟩, by omega⟩
end Go.Proofs.YtoephflcjllaaaaGreatDoor
