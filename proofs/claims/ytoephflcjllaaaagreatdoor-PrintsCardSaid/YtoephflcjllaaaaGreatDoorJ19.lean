/- Walks: core. -/
import Derived.Test.YtoephflcjllaaaaGreatDoorJ18
namespace Go.Proofs.YtoephflcjllaaaaGreatDoor
open Go.RowKit
set_option linter.unusedVariables false

def Opt (w : World) (P : Nat → Prop) (t : Bags.T) (x : Value) : Prop := (t = .none ∧ x = .nilIface) ∨ rep0 w P t [x]
def Row (e : TypeId) (sz : Nat) (R : World → (Nat → Prop) → Bags.T → List Value → Prop) (w : World) (P : Nat → Prop) (t : Bags.T) (v : Value) : Prop := ∃ n cells, w.ownsRow 0 e sz v n cells ∧ Own P v ∧ R w P t cells
/-- A selection under way: the block g, its parts in blocks of their own. -/
structure Sel (w : World) (B g : Nat) (d : Bool) (it f wh gr hv : Bags.T) (vi vf xw vg xh : Value) : Prop where
  hg : B ≤ g
  blk : Blk w g 199 #[.bool d, vi, vf, xw, vg, xh]
  ri : Row 203 2 rep0 w (fun b => B ≤ b ∧ b ≠ g) it vi
  rf : Row 207 2 rep0 w (fun b => B ≤ b ∧ b ≠ g) f vf
  ow : Opt w (fun b => B ≤ b ∧ b ≠ g) wh xw
  rg : Row 211 1 repCols w (fun b => B ≤ b ∧ b ≠ g) gr vg
  oh : Opt w (fun b => B ≤ b ∧ b ≠ g) hv xh
section
variable {w w' : World} {B B3 g : Nat} {d : Bool} {it f wh gr hv t : Bags.T} {vi vf xw vg xh v : Value} {S P P' : Nat → Prop} {e : TypeId} {sz : Nat} {R : World → (Nat → Prop) → Bags.T → List Value → Prop}
theorem Opt.fr (h : Opt w P t v) (hf : Fr S w w') (hS : ∀ k, S k → ¬ P k) (hP : ∀ k, P k → k < w.heap.size → P' k) : Opt w' P' t v := h.imp id (rep0.fr hf hS hP)
theorem Row.fr (hR : Stable R) (h : Row e sz R w P t v) (hf : Fr S w w') (hS : ∀ k, S k → ¬ P k) (hP : ∀ k, P k → k < w.heap.size → P' k) : Row e sz R w' P' t v := by
  obtain ⟨n, cells, h1, h2, h3⟩ := h
  exact ⟨n, cells, ownsRow_fr0 h1 h2 hf hS, h2.mono h1 hP, hR hf hS hP h3⟩
theorem Sel.far (h : Sel w B g d it f wh gr hv vi vf xw vg xh) (hf : Fr S w w') (hS : ∀ k, S k → k < B) : Sel w' B g d it f wh gr hv vi vf xw vg xh := by
  have h1 : ∀ k, S k → ¬ (B ≤ k ∧ k ≠ g) := fun k hk hp => by have := hS k hk; omega
  have h2 : ∀ k, (B ≤ k ∧ k ≠ g) → k < w.heap.size → (B ≤ k ∧ k ≠ g) := fun _ h _ => h
  exact ⟨h.hg, h.blk.fr hf (fun hk => by have := hS g hk; have := h.hg; omega), h.ri.fr rep0.fr hf h1 h2, h.rf.fr rep0.fr hf h1 h2, h.ow.fr hf h1 h2, h.rg.fr repCols.fr hf h1 h2, h.oh.fr hf h1 h2⟩
theorem Sel.put (h : Sel w B g d it f wh gr hv vi vf xw vg xh) (i : Nat) (u : Value) : Fr (· = g) w (w.setCell ⟨g, i, none⟩ u) := (Fr.refl (· = g) w).set (p := ⟨g, i, none⟩) (.inr rfl) u
theorem Sel.put_i (h : Sel w B g d it f wh gr hv vi vf xw vg xh) (hv' : Row 203 2 rep0 w (fun b => B ≤ b ∧ b ≠ g) t v) : Sel (w.setCell ⟨g, 1, none⟩ v) B g d t f wh gr hv v vf xw vg xh := by
  have hf := h.put 1 v
  have h1 : ∀ k, k = g → ¬ (B ≤ k ∧ k ≠ g) := fun k hk hp => hp.2 hk
  have h2 : ∀ k, (B ≤ k ∧ k ≠ g) → k < w.heap.size → (B ≤ k ∧ k ≠ g) := fun _ h _ => h
  exact ⟨h.hg, by simpa using h.blk.put 1 v, hv'.fr rep0.fr hf h1 h2, h.rf.fr rep0.fr hf h1 h2, h.ow.fr hf h1 h2, h.rg.fr repCols.fr hf h1 h2, h.oh.fr hf h1 h2⟩
theorem Sel.put_f (h : Sel w B g d it f wh gr hv vi vf xw vg xh) (hv' : Row 207 2 rep0 w (fun b => B ≤ b ∧ b ≠ g) t v) : Sel (w.setCell ⟨g, 2, none⟩ v) B g d it t wh gr hv vi v xw vg xh := by
  have hf := h.put 2 v
  have h1 : ∀ k, k = g → ¬ (B ≤ k ∧ k ≠ g) := fun k hk hp => hp.2 hk
  have h2 : ∀ k, (B ≤ k ∧ k ≠ g) → k < w.heap.size → (B ≤ k ∧ k ≠ g) := fun _ h _ => h
  exact ⟨h.hg, by simpa using h.blk.put 2 v, h.ri.fr rep0.fr hf h1 h2, hv'.fr rep0.fr hf h1 h2, h.ow.fr hf h1 h2, h.rg.fr repCols.fr hf h1 h2, h.oh.fr hf h1 h2⟩
theorem Sel.put_w (h : Sel w B g d it f wh gr hv vi vf xw vg xh) (hv' : Opt w (fun b => B ≤ b ∧ b ≠ g) t v) : Sel (w.setCell ⟨g, 3, none⟩ v) B g d it f t gr hv vi vf v vg xh := by
  have hf := h.put 3 v
  have h1 : ∀ k, k = g → ¬ (B ≤ k ∧ k ≠ g) := fun k hk hp => hp.2 hk
  have h2 : ∀ k, (B ≤ k ∧ k ≠ g) → k < w.heap.size → (B ≤ k ∧ k ≠ g) := fun _ h _ => h
  exact ⟨h.hg, by simpa using h.blk.put 3 v, h.ri.fr rep0.fr hf h1 h2, h.rf.fr rep0.fr hf h1 h2, hv'.fr hf h1 h2, h.rg.fr repCols.fr hf h1 h2, h.oh.fr hf h1 h2⟩
theorem Sel.put_g (h : Sel w B g d it f wh gr hv vi vf xw vg xh) (hv' : Row 211 1 repCols w (fun b => B ≤ b ∧ b ≠ g) t v) : Sel (w.setCell ⟨g, 4, none⟩ v) B g d it f wh t hv vi vf xw v xh := by
  have hf := h.put 4 v
  have h1 : ∀ k, k = g → ¬ (B ≤ k ∧ k ≠ g) := fun k hk hp => hp.2 hk
  have h2 : ∀ k, (B ≤ k ∧ k ≠ g) → k < w.heap.size → (B ≤ k ∧ k ≠ g) := fun _ h _ => h
  exact ⟨h.hg, by simpa using h.blk.put 4 v, h.ri.fr rep0.fr hf h1 h2, h.rf.fr rep0.fr hf h1 h2, h.ow.fr hf h1 h2, hv'.fr repCols.fr hf h1 h2, h.oh.fr hf h1 h2⟩
theorem Sel.put_h (h : Sel w B g d it f wh gr hv vi vf xw vg xh) (hv' : Opt w (fun b => B ≤ b ∧ b ≠ g) t v) : Sel (w.setCell ⟨g, 5, none⟩ v) B g d it f wh gr t vi vf xw vg v := by
  have hf := h.put 5 v
  have h1 : ∀ k, k = g → ¬ (B ≤ k ∧ k ≠ g) := fun k hk hp => hp.2 hk
  have h2 : ∀ k, (B ≤ k ∧ k ≠ g) → k < w.heap.size → (B ≤ k ∧ k ≠ g) := fun _ h _ => h
  exact ⟨h.hg, by simpa using h.blk.put 5 v, h.ri.fr rep0.fr hf h1 h2, h.rf.fr rep0.fr hf h1 h2, h.ow.fr hf h1 h2, h.rg.fr repCols.fr hf h1 h2, hv'.fr hf h1 h2⟩
theorem Sel.rep (h : Sel w B g d it f wh gr hv vi vf xw vg xh) : rep w B (.sel d it f wh gr hv) [.iface 193 (.pointer (some ⟨g, 0, none⟩))] := by
  have hf := Fr.refl (fun _ => False) w
  have h1 : ∀ k, False → ¬ (B ≤ k ∧ k ≠ g) := fun _ h => h.elim
  have h2 : ∀ k, (B ≤ k ∧ k ≠ g) → k < w.heap.size → B ≤ k := fun _ h _ => h.1
  obtain ⟨ni, ci, i1, i2, i3⟩ := h.ri.fr rep0.fr hf h1 h2
  obtain ⟨nf, cf, f1, f2, f3⟩ := h.rf.fr rep0.fr hf h1 h2
  obtain ⟨ng, cg, g1, g2, g3⟩ := h.rg.fr repCols.fr hf h1 h2
  exact ⟨vi, ni, ci, vf, nf, cf, xw, vg, ng, cg, xh, i1, i2, i3, f1, f2, f3, h.ow.fr hf h1 h2, g1, g2, g3, h.oh.fr hf h1 h2, g, h.hg, rfl, h.blk⟩
theorem VL.slice (h : VL e sz R w B3 t v) : ∃ a n c, v = .slice a n c := by
  obtain ⟨n, cells, h1, _⟩ := h
  rcases h1.2 with ⟨rfl, _⟩ | ⟨g, cap, cur, rfl, _⟩ <;> exact ⟨_, _, _, rfl⟩
theorem VL.row (hR : Stable R) (h : VL e sz R w B3 t v) (hB : B ≤ B3) (hg : g < B3) : Row e sz R w (fun b => B ≤ b ∧ b ≠ g) t v :=
  Row.fr hR (P := fun b => B3 ≤ b) h (Fr.refl (fun _ => False) w) (fun _ h => h.elim) (fun k hk _ => by omega)
theorem rep_opt (h : Proofs.YtoephflcjllaaaaGreatDoor.rep w B3 t [v]) (hB : B ≤ B3) (hg : g < B3) : Opt w (fun b => B ≤ b ∧ b ≠ g) t v :=
  .inr (rep0.fr (P := fun b => B3 ≤ b) (Fr.refl (fun _ => False) w) (fun _ h => h.elim) (fun k hk _ => by omega) h)
theorem Sel.made (B : Nat) (hB : B ≤ w.heap.size) (d : Bool) : Sel (w.alloc (.cells #[.bool d, .slice none 0 0, .slice none 0 0, .nilIface, .slice none 0 0, .nilIface] 199)) B w.heap.size d .none .none .none .none .none (.slice none 0 0) (.slice none 0 0) .nilIface (.slice none 0 0) .nilIface :=
  ⟨hB, Blk.made _ _ _, ⟨0, [], ⟨rfl, .inl ⟨rfl, rfl⟩⟩, fun _ h => by simp [Value.ownBlock] at h, rfl⟩, ⟨0, [], ⟨rfl, .inl ⟨rfl, rfl⟩⟩, fun _ h => by simp [Value.ownBlock] at h, rfl⟩, .inl ⟨rfl, rfl⟩, ⟨0, [], ⟨rfl, .inl ⟨rfl, rfl⟩⟩, fun _ h => by simp [Value.ownBlock] at h, rfl⟩, .inl ⟨rfl, rfl⟩⟩
end

set_option maxRecDepth 100000 in
set_option maxHeartbeats 8000000 in
theorem core_any (hC : ContSaid) {r A : Nat} {ws : List Bags.W} (hz : ws.length ≤ 1000) {N : Nat} (hQ : Meth 101 V1 .sub N r A ws) (hI : Meth 103 V2 .item N r A ws) (hSo : Meth 105 V2 .source N r A ws) (hCo : Meth 108 VC .col N r A ws) (hCd : Meth 106 V1 .cond N r A ws) :
    Meth 81 V1 .core (N + 1) r A ws := by
  intro n hn W i y hok hr hi hy
  cases n with
  | zero => simp [Bags.par] at hy
  | succ n =>
  have hmf := hmf
  have hnot : ∀ (x : Bool) (w : World), (Op.unary .not (.bool x)).run Tryz.prog w = .ok (.bool (!x)) w := fun _ _ => rfl
  have HR1 := Lib.hid hr
  have HG1 := Lib.hid (Fr.refl (· = r) W)
  have HQ := Lib.hid hQ
  have HI := Lib.hid hI
  have HSo := Lib.hid hSo
  have HCo := Lib.hid hCo
  have HCd := Lib.hid hCd
  rw [Bags.par] at hy
  simp only [List.tail_drop] at hy
  have hlt := hr.lt
  have hltA := hr.ltA
  clear hQ hI hSo hCo hCd hr
  cases h1 : (Bags.hd (ws.drop i)).is 5 [Bags.str "("]
  · rw [if_neg (by simp [h1])] at hy
    have H1 := Lib.hid (show isT (Bags.hd (ws.drop i)) 5 [Bags.str "("] = false from h1)
    cases h2 : (Bags.hd (ws.drop i)).is 1 [Bags.str "select"]
    · rw [if_neg (by simp [h2])] at hy
      have H2 := Lib.hid (show isT (Bags.hd (ws.drop i)) 1 [Bags.str "select"] = false from h2)
      obtain ⟨rfl⟩ : none = y := by simpa [Bags.miss] using hy
      clear hy h1 h2
      go_enter Tryz.func81, Tryz.ntmps81
      go_wp2_with (first | (go_at_call 82; refine (is_at hC HR1.out hi H1.out (by decide) (by decide) rfl (by first | rfl | simp) rfl).mono ?_; rintro e w2 ⟨rfl, hR, hG⟩; have HR2 := Lib.hid hR; have HG2 := Lib.hid hG; clear hR hG) | (go_at_call 64; refine (must_no hC H2.out HR2.out hi (by omega) (by decide) (by decide) rfl (by first | rfl | simp) rfl).mono ?_; rintro e w3 ⟨rfl, hR, hG⟩; have HR3 := Lib.hid hR; have HG3 := Lib.hid hG; clear hR hG))
      exact ⟨rfl, HG2.out.t HG3.out, rfl, _, HR3.out⟩
    · rw [if_pos h2] at hy
      have hi1 := lt_of_is h2 (by decide)
      have H2 := Lib.hid (show isT (Bags.hd (ws.drop i)) 1 [Bags.str "select"] = true from h2)
      cases n with
      | zero => simp [Bags.par, Bags.R.andThen] at hy
      | succ m =>
      generalize hd3 : (Bags.hd (ws.drop (i + 1))).is 1 [Bags.str "distinct"] = b at hy
      obtain ⟨p, hp1, hp2, hp3⟩ : ∃ p, (if b = true then ws.drop (i + 1 + 1) else ws.drop (i + 1)) = ws.drop p ∧ p ≤ ws.length ∧ (if b = true then i + 1 + 1 else i + 1) = p := by
        cases b
        · exact ⟨i + 1, by simp, by omega, by simp⟩
        · exact ⟨i + 1 + 1, by simp, by have := lt_of_is hd3 (by decide); omega, by simp⟩
      rw [hp1] at hy
      simp only [List.tail_drop] at hy
      have H3 := Lib.hid (show isT (Bags.hd (ws.drop (i + 1))) 1 [Bags.str "distinct"] = b from hd3)
      clear h1 h2 hd3 hp1
      go_enter Tryz.func81, Tryz.ntmps81
      go_wp2_with fail
      refine (is_at hC HR1.out hi H1.out (by decide) (by decide) rfl (by first | rfl | simp) rfl).mono ?_
      rintro e w9 ⟨rfl, hR, hG⟩
      have HR9 := Lib.hid hR
      have HG9 := Lib.hid hG
      clear hR hG
      go_wp2_with fail
      refine (must_yes hC H2.out HR9.out hi (by omega) (by decide) (by decide) rfl (by first | rfl | simp) rfl).mono ?_
      rintro e w2 ⟨rfl, hR, hG⟩
      have HR2 := Lib.hid hR
      have HG2 := Lib.hid hG
      clear hR hG
      go_wp2_with fail
      refine (takes_at hC HR2.out (by omega) (by omega) H3.out (by decide) (by decide) rfl (by first | rfl | simp) rfl).mono ?_
      rintro e w3 ⟨rfl, hR, hG⟩
      rw [hp3] at hR
      have HG3 := Lib.hid ((HG9.out.t HG2.out).t hG)
      have HS3 := Lib.hid (Sel.made (w := w3) W.heap.size HG3.out.size b)
      have HRa := Lib.hid (hR.alloc (.cells #[.bool b, .slice none 0 0, .slice none 0 0, .nilIface, .slice none 0 0, .nilIface] 199))
      have HGa := Lib.hid (HG3.out.alloc (.cells #[.bool b, .slice none 0 0, .slice none 0 0, .nilIface, .slice none 0 0, .nilIface] 199))
      clear hR hG
      cases ts : (Bags.hd (ws.drop p)).is 5 [Bags.str "*"]
      · rw [if_neg (by simp [ts])] at hy
        have Ts := Lib.hid (show isT (Bags.hd (ws.drop p)) 5 [Bags.str "*"] = false from ts)
        clear ts
        go_wp2_with fail
        refine (takes_no hC HRa.out (by omega) (by omega) Ts.out (by decide) (by decide) rfl (by first | rfl | simp) rfl).mono ?_
        rintro e w4 ⟨rfl, hR, hG⟩
        have HR4 := Lib.hid hR
        have HG4 := Lib.hid (HGa.out.t hG)
        have HS4 := Lib.hid (HS3.out.far hG (fun _ h => h ▸ hlt))
        clear hR hG
        rcases Bags.andThen_some hy with ⟨hp, rfl⟩ | ⟨li, rest, hp, hy⟩
        · rw [Bags.par] at hp
          have HP := Lib.hid hp
          clear hp
          go_wp2_with fail
          refine (commas_item hC hz HI.out (n := m) (by omega) HR4.out (by omega) HP.out).mono ?_
          rintro e w5 ⟨hG, rfl, hR⟩
          have HR5 := Lib.hid hR
          have HG5 := Lib.hid (HG4.out.t hG)
          have HS5 := Lib.hid (HS4.out.far hG (fun _ h => h ▸ hlt))
          clear hR hG
          exact ⟨rfl, HG5.out, rfl, HR5.out⟩
        · obtain ⟨ji, _, _, rfl⟩ := drop_of hp (by omega)
          rw [Bags.par] at hp
          have HP := Lib.hid hp
          clear hp
          go_wp2_with fail
          refine (commas_item hC hz HI.out (n := m) (by omega) HR4.out (by omega) HP.out).mono ?_
          rintro e w5 ⟨hG, x5, jx, rfl, hx, hjx, hdr, hR⟩
          obtain rfl : ji = jx := drop_inj (by assumption) hjx hdr
          obtain ⟨sa5, sn5, sc5, rfl⟩ := VL.slice hx
          have hrow := Lib.hid ((VL.row rep0.fr hx HG4.out.size HS4.out.blk.lt))
          have HR5 := Lib.hid hR
          have HG5 := Lib.hid (HG4.out.t hG)
          have HS5 := Lib.hid (HS4.out.far hG (fun _ h => h ▸ hlt))
          clear hR hG
          have bb := HS5.out.blk.cell 1
          have gg := HS5.out.blk.free 1
          simp at bb
          have hgB := HS5.out.hg
          have HS6 := Lib.hid (HS5.out.put_i hrow.out)
          have HR6 := Lib.hid (HR5.out.fr (HS5.out.put 1 (.slice sa5 sn5 sc5)) (by omega) (by omega))
          have HG6 := Lib.hid (HG5.out.set (p := ⟨w3.heap.size, 1, none⟩) (.inl HS5.out.hg) (.slice sa5 sn5 sc5))
          clear hrow hx
          rw [Bags.par] at hy
          simp only [List.tail_drop] at hy
          cases tfi : (Bags.hd (ws.drop ji)).is 1 [Bags.str "from"]
          · rw [if_neg (by simp [tfi])] at hy
            have Tfi := Lib.hid (show isT (Bags.hd (ws.drop ji)) 1 [Bags.str "from"] = false from tfi)
            clear tfi
            obtain ⟨rfl⟩ : none = y := by simpa [Bags.miss] using hy
            clear hy
            go_wp2_with fail
            refine (must_no hC Tfi.out HR6.out (by omega) (by omega) (by decide) (by decide) rfl (by first | rfl | simp) rfl).mono ?_
            rintro e w7 ⟨rfl, hR, hG⟩
            have HR7 := Lib.hid hR
            have HG7 := Lib.hid (HG6.out.t hG)
            have HS7 := Lib.hid (HS6.out.far hG (fun _ h => h ▸ hlt))
            clear hR hG
            exact ⟨rfl, HG7.out, rfl, _, HR7.out⟩
          · rw [if_pos tfi] at hy
            have Tfi := Lib.hid (show isT (Bags.hd (ws.drop ji)) 1 [Bags.str "from"] = true from tfi)
            have := lt_of_is tfi (by decide)
            clear tfi
            go_wp2_with fail
            refine (must_yes hC Tfi.out HR6.out (by omega) (by omega) (by decide) (by decide) rfl (by first | rfl | simp) rfl).mono ?_
            rintro e w7 ⟨rfl, hR, hG⟩
            have HR7 := Lib.hid hR
            have HG7 := Lib.hid (HG6.out.t hG)
            have HS7 := Lib.hid (HS6.out.far hG (fun _ h => h ▸ hlt))
            clear hR hG
            cases m with
            | zero => simp [Bags.par, Bags.R.andThen] at hy
            | succ k0 =>
            rcases Bags.andThen_some hy with ⟨hp, rfl⟩ | ⟨lf, rest, hp, hy⟩
            · rw [Bags.par] at hp
              have HP := Lib.hid hp
              clear hp
              go_wp2_with fail
              refine (commas_source hC hz HSo.out (n := k0) (by omega) HR7.out (by omega) HP.out).mono ?_
              rintro e w8 ⟨hG, rfl, hR⟩
              have HR8 := Lib.hid hR
              have HG8 := Lib.hid (HG7.out.t hG)
              have HS8 := Lib.hid (HS7.out.far hG (fun _ h => h ▸ hlt))
              clear hR hG
              exact ⟨rfl, HG8.out, rfl, HR8.out⟩
            · obtain ⟨jf, _, _, rfl⟩ := drop_of hp (by omega)
              rw [Bags.par] at hp
              have HP := Lib.hid hp
              clear hp
              go_wp2_with fail
              refine (commas_source hC hz HSo.out (n := k0) (by omega) HR7.out (by omega) HP.out).mono ?_
              rintro e w8 ⟨hG, x8, jx, rfl, hx, hjx, hdr, hR⟩
              obtain rfl : jf = jx := drop_inj (by assumption) hjx hdr
              obtain ⟨sa8, sn8, sc8, rfl⟩ := VL.slice hx
              have hrow := Lib.hid ((VL.row rep0.fr hx HG7.out.size HS7.out.blk.lt))
              have HR8 := Lib.hid hR
              have HG8 := Lib.hid (HG7.out.t hG)
              have HS8 := Lib.hid (HS7.out.far hG (fun _ h => h ▸ hlt))
              clear hR hG
              have bb := HS8.out.blk.cell 2
              have gg := HS8.out.blk.free 2
              simp at bb
              have hgB := HS8.out.hg
              have HS9 := Lib.hid (HS8.out.put_f hrow.out)
              have HR9 := Lib.hid (HR8.out.fr (HS8.out.put 2 (.slice sa8 sn8 sc8)) (by omega) (by omega))
              have HG9 := Lib.hid (HG8.out.set (p := ⟨w3.heap.size, 2, none⟩) (.inl HS8.out.hg) (.slice sa8 sn8 sc8))
              clear hrow hx
              simp only [List.tail_drop] at hy
              cases twi : (Bags.hd (ws.drop jf)).is 1 [Bags.str "where"]
              · rw [if_neg (by simp [twi])] at hy
                have Twi := Lib.hid (show isT (Bags.hd (ws.drop jf)) 1 [Bags.str "where"] = false from twi)
                clear twi
                go_wp2_with fail
                refine (takes_no hC HR9.out (by omega) (by omega) Twi.out (by decide) (by decide) rfl (by first | rfl | simp) rfl).mono ?_
                rintro e w10 ⟨rfl, hR, hG⟩
                have HR10 := Lib.hid hR
                have HG10 := Lib.hid (HG9.out.t hG)
                have HS10 := Lib.hid (HS9.out.far hG (fun _ h => h ▸ hlt))
                clear hR hG
                obtain ⟨k, hk⟩ : ∃ k, k = k0 + 1 := ⟨_, rfl⟩
                rw [← hk] at hy
                cases k with
                | zero => simp [Bags.par] at hy
                | succ q =>
                rw [Bags.par] at hy
                simp only [List.tail_drop] at hy
                cases tgni : (Bags.hd (ws.drop jf)).is 1 [Bags.str "group"]
                · rw [if_neg (by simp [tgni])] at hy
                  have Tgni := Lib.hid (show isT (Bags.hd (ws.drop jf)) 1 [Bags.str "group"] = false from tgni)
                  clear tgni
                  go_wp2_with fail
                  refine (takes_no hC HR10.out (by omega) (by omega) Tgni.out (by decide) (by decide) rfl (by first | rfl | simp) rfl).mono ?_
                  rintro e w11 ⟨rfl, hR, hG⟩
                  have HR11 := Lib.hid hR
                  have HG11 := Lib.hid (HG10.out.t hG)
                  have HS11 := Lib.hid (HS10.out.far hG (fun _ h => h ▸ hlt))
                  clear hR hG
                  have HY := Lib.hid hy
                  clear hy
                  go_wp2_with fail
                  go_ret
                  obtain ⟨rfl⟩ : some ((.sel b li lf .none .none .none), ws.drop jf) = y := by simpa [Bags.ok] using HY.out
                  exact ⟨HG11.out, _, jf, rfl, HS11.out.rep, by omega, rfl, HR11.out⟩
                · rw [if_pos tgni] at hy
                  have Tgni := Lib.hid (show isT (Bags.hd (ws.drop jf)) 1 [Bags.str "group"] = true from tgni)
                  have := lt_of_is tgni (by decide)
                  clear tgni
                  go_wp2_with fail
                  refine (takes_yes hC HR10.out (by omega) (by omega) Tgni.out (by decide) (by decide) rfl (by first | rfl | simp) rfl).mono ?_
                  rintro e w11 ⟨rfl, hR, hG⟩
                  have HR11 := Lib.hid hR
                  have HG11 := Lib.hid (HG10.out.t hG)
                  have HS11 := Lib.hid (HS10.out.far hG (fun _ h => h ▸ hlt))
                  clear hR hG
                  cases tbni : (Bags.hd (ws.drop (jf + 1))).is 1 [Bags.str "by"]
                  · rw [if_neg (by simp [tbni])] at hy
                    have Tbni := Lib.hid (show isT (Bags.hd (ws.drop (jf + 1))) 1 [Bags.str "by"] = false from tbni)
                    clear tbni
                    obtain ⟨rfl⟩ : none = y := by simpa [Bags.miss] using hy
                    clear hy
                    go_wp2_with fail
                    refine (must_no hC Tbni.out HR11.out (by omega) (by omega) (by decide) (by decide) rfl (by first | rfl | simp) rfl).mono ?_
                    rintro e w12 ⟨rfl, hR, hG⟩
                    have HR12 := Lib.hid hR
                    have HG12 := Lib.hid (HG11.out.t hG)
                    have HS12 := Lib.hid (HS11.out.far hG (fun _ h => h ▸ hlt))
                    clear hR hG
                    exact ⟨rfl, HG12.out, rfl, _, HR12.out⟩
                  · rw [if_pos tbni] at hy
                    have Tbni := Lib.hid (show isT (Bags.hd (ws.drop (jf + 1))) 1 [Bags.str "by"] = true from tbni)
                    have := lt_of_is tbni (by decide)
                    clear tbni
                    go_wp2_with fail
                    refine (must_yes hC Tbni.out HR11.out (by omega) (by omega) (by decide) (by decide) rfl (by first | rfl | simp) rfl).mono ?_
                    rintro e w12 ⟨rfl, hR, hG⟩
                    have HR12 := Lib.hid hR
                    have HG12 := Lib.hid (HG11.out.t hG)
                    have HS12 := Lib.hid (HS11.out.far hG (fun _ h => h ▸ hlt))
                    clear hR hG
                    cases q with
                    | zero => simp [Bags.par, Bags.R.andThen] at hy
                    | succ q0 =>
                    rcases Bags.andThen_some hy with ⟨hp, rfl⟩ | ⟨lg, rest, hp, hy⟩
                    · rw [Bags.par] at hp
                      have HP := Lib.hid hp
                      clear hp
                      go_wp2_with fail
                      refine (commas_column hC hz HCo.out (n := q0) (by omega) HR12.out (by omega) HP.out).mono ?_
                      rintro e w13 ⟨hG, rfl, hR⟩
                      have HR13 := Lib.hid hR
                      have HG13 := Lib.hid (HG12.out.t hG)
                      have HS13 := Lib.hid (HS12.out.far hG (fun _ h => h ▸ hlt))
                      clear hR hG
                      exact ⟨rfl, HG13.out, rfl, HR13.out⟩
                    · obtain ⟨jg, _, _, rfl⟩ := drop_of hp (by omega)
                      rw [Bags.par] at hp
                      have HP := Lib.hid hp
                      clear hp
                      go_wp2_with fail
                      refine (commas_column hC hz HCo.out (n := q0) (by omega) HR12.out (by omega) HP.out).mono ?_
                      rintro e w13 ⟨hG, x13, jx, rfl, hx, hjx, hdr, hR⟩
                      obtain rfl : jg = jx := drop_inj (by assumption) hjx hdr
                      obtain ⟨sa13, sn13, sc13, rfl⟩ := VL.slice hx
                      have hrow := Lib.hid ((VL.row repCols.fr hx HG12.out.size HS12.out.blk.lt))
                      have HR13 := Lib.hid hR
                      have HG13 := Lib.hid (HG12.out.t hG)
                      have HS13 := Lib.hid (HS12.out.far hG (fun _ h => h ▸ hlt))
                      clear hR hG
                      have bb := HS13.out.blk.cell 4
                      have gg := HS13.out.blk.free 4
                      simp at bb
                      have hgB := HS13.out.hg
                      have HS14 := Lib.hid (HS13.out.put_g hrow.out)
                      have HR14 := Lib.hid (HR13.out.fr (HS13.out.put 4 (.slice sa13 sn13 sc13)) (by omega) (by omega))
                      have HG14 := Lib.hid (HG13.out.set (p := ⟨w3.heap.size, 4, none⟩) (.inl HS13.out.hg) (.slice sa13 sn13 sc13))
                      clear hrow hx
                      simp only [List.tail_drop] at hy
                      cases thni : (Bags.hd (ws.drop jg)).is 1 [Bags.str "having"]
                      · rw [if_neg (by simp [thni])] at hy
                        have Thni := Lib.hid (show isT (Bags.hd (ws.drop jg)) 1 [Bags.str "having"] = false from thni)
                        clear thni
                        go_wp2_with fail
                        refine (takes_no hC HR14.out (by omega) (by omega) Thni.out (by decide) (by decide) rfl (by first | rfl | simp) rfl).mono ?_
                        rintro e w15 ⟨rfl, hR, hG⟩
                        have HR15 := Lib.hid hR
                        have HG15 := Lib.hid (HG14.out.t hG)
                        have HS15 := Lib.hid (HS14.out.far hG (fun _ h => h ▸ hlt))
                        clear hR hG
                        have HY := Lib.hid hy
                        clear hy
                        go_wp2_with fail
                        go_ret
                        obtain ⟨rfl⟩ : some ((.sel b li lf .none lg .none), ws.drop jg) = y := by simpa [Bags.ok] using HY.out
                        exact ⟨HG15.out, _, jg, rfl, HS15.out.rep, by omega, rfl, HR15.out⟩
                      · rw [if_pos thni] at hy
                        have Thni := Lib.hid (show isT (Bags.hd (ws.drop jg)) 1 [Bags.str "having"] = true from thni)
                        have := lt_of_is thni (by decide)
                        clear thni
                        go_wp2_with fail
                        refine (takes_yes hC HR14.out (by omega) (by omega) Thni.out (by decide) (by decide) rfl (by first | rfl | simp) rfl).mono ?_
                        rintro e w15 ⟨rfl, hR, hG⟩
                        have HR15 := Lib.hid hR
                        have HG15 := Lib.hid (HG14.out.t hG)
                        have HS15 := Lib.hid (HS14.out.far hG (fun _ h => h ▸ hlt))
                        clear hR hG
                        rcases Bags.andThen_some hy with ⟨hp, rfl⟩ | ⟨ch, rest, hp, hy⟩
                        · have HP := Lib.hid hp
                          clear hp
                          go_wp2_with fail
                          refine (HCd.out (q0 + 1) (by omega) _ (jg + 1) _ trivial HR15.out (by omega) HP.out).mono ?_
                          rintro e w16 ⟨hG, rfl, hR⟩
                          have HR16 := Lib.hid hR
                          have HG16 := Lib.hid (HG15.out.t hG)
                          have HS16 := Lib.hid (HS15.out.far hG (fun _ h => h ▸ hlt))
                          clear hR hG
                          exact ⟨rfl, HG16.out, rfl, HR16.out⟩
                        · obtain ⟨jh, _, _, rfl⟩ := drop_of hp (by omega)
                          have HP := Lib.hid hp
                          clear hp
                          go_wp2_with fail
                          refine (HCd.out (q0 + 1) (by omega) _ (jg + 1) _ trivial HR15.out (by omega) HP.out).mono ?_
                          rintro e w16 ⟨hG, x16, jx, rfl, hx, hjx, hdr, hR⟩
                          obtain rfl : jh = jx := drop_inj (by assumption) hjx hdr
                          obtain ⟨tp16, vp16, rfl⟩ := rep.iface hx
                          have hrow := Lib.hid ((rep_opt (show rep _ _ _ _ from hx) HG15.out.size HS15.out.blk.lt))
                          have HR16 := Lib.hid hR
                          have HG16 := Lib.hid (HG15.out.t hG)
                          have HS16 := Lib.hid (HS15.out.far hG (fun _ h => h ▸ hlt))
                          clear hR hG
                          have bb := HS16.out.blk.cell 5
                          have gg := HS16.out.blk.free 5
                          simp at bb
                          have hgB := HS16.out.hg
                          have HS17 := Lib.hid (HS16.out.put_h hrow.out)
                          have HR17 := Lib.hid (HR16.out.fr (HS16.out.put 5 (.iface tp16 vp16)) (by omega) (by omega))
                          have HG17 := Lib.hid (HG16.out.set (p := ⟨w3.heap.size, 5, none⟩) (.inl HS16.out.hg) (.iface tp16 vp16))
                          clear hrow hx
                          have HY := Lib.hid hy
                          clear hy
                          go_wp2_with fail
                          go_ret
                          obtain ⟨rfl⟩ : some ((.sel b li lf .none lg ch), ws.drop jh) = y := by simpa [Bags.ok] using HY.out
                          exact ⟨HG17.out, _, jh, rfl, HS17.out.rep, by omega, rfl, HR17.out⟩
              · rw [if_pos twi] at hy
                have Twi := Lib.hid (show isT (Bags.hd (ws.drop jf)) 1 [Bags.str "where"] = true from twi)
                have := lt_of_is twi (by decide)
                clear twi
                go_wp2_with fail
                refine (takes_yes hC HR9.out (by omega) (by omega) Twi.out (by decide) (by decide) rfl (by first | rfl | simp) rfl).mono ?_
                rintro e w10 ⟨rfl, hR, hG⟩
                have HR10 := Lib.hid hR
                have HG10 := Lib.hid (HG9.out.t hG)
                have HS10 := Lib.hid (HS9.out.far hG (fun _ h => h ▸ hlt))
                clear hR hG
                rcases Bags.andThen_some hy with ⟨hp, rfl⟩ | ⟨cw, rest, hp, hy⟩
                · have HP := Lib.hid hp
                  clear hp
                  go_wp2_with fail
                  refine (HCd.out (k0 + 1) (by omega) _ (jf + 1) _ trivial HR10.out (by omega) HP.out).mono ?_
                  rintro e w11 ⟨hG, rfl, hR⟩
                  have HR11 := Lib.hid hR
                  have HG11 := Lib.hid (HG10.out.t hG)
                  have HS11 := Lib.hid (HS10.out.far hG (fun _ h => h ▸ hlt))
                  clear hR hG
                  exact ⟨rfl, HG11.out, rfl, HR11.out⟩
                · obtain ⟨jw, _, _, rfl⟩ := drop_of hp (by omega)
                  have HP := Lib.hid hp
                  clear hp
                  go_wp2_with fail
                  refine (HCd.out (k0 + 1) (by omega) _ (jf + 1) _ trivial HR10.out (by omega) HP.out).mono ?_
                  rintro e w11 ⟨hG, x11, jx, rfl, hx, hjx, hdr, hR⟩
                  obtain rfl : jw = jx := drop_inj (by assumption) hjx hdr
                  obtain ⟨tp11, vp11, rfl⟩ := rep.iface hx
                  have hrow := Lib.hid ((rep_opt (show rep _ _ _ _ from hx) HG10.out.size HS10.out.blk.lt))
                  have HR11 := Lib.hid hR
                  have HG11 := Lib.hid (HG10.out.t hG)
                  have HS11 := Lib.hid (HS10.out.far hG (fun _ h => h ▸ hlt))
                  clear hR hG
                  have bb := HS11.out.blk.cell 3
                  have gg := HS11.out.blk.free 3
                  simp at bb
                  have hgB := HS11.out.hg
                  have HS12 := Lib.hid (HS11.out.put_w hrow.out)
                  have HR12 := Lib.hid (HR11.out.fr (HS11.out.put 3 (.iface tp11 vp11)) (by omega) (by omega))
                  have HG12 := Lib.hid (HG11.out.set (p := ⟨w3.heap.size, 3, none⟩) (.inl HS11.out.hg) (.iface tp11 vp11))
                  clear hrow hx
                  obtain ⟨k, hk⟩ : ∃ k, k = k0 + 1 := ⟨_, rfl⟩
                  rw [← hk] at hy
                  cases k with
                  | zero => simp [Bags.par] at hy
                  | succ q =>
                  rw [Bags.par] at hy
                  simp only [List.tail_drop] at hy
                  cases tgwi : (Bags.hd (ws.drop jw)).is 1 [Bags.str "group"]
                  · rw [if_neg (by simp [tgwi])] at hy
                    have Tgwi := Lib.hid (show isT (Bags.hd (ws.drop jw)) 1 [Bags.str "group"] = false from tgwi)
                    clear tgwi
                    go_wp2_with fail
                    refine (takes_no hC HR12.out (by omega) (by omega) Tgwi.out (by decide) (by decide) rfl (by first | rfl | simp) rfl).mono ?_
                    rintro e w13 ⟨rfl, hR, hG⟩
                    have HR13 := Lib.hid hR
                    have HG13 := Lib.hid (HG12.out.t hG)
                    have HS13 := Lib.hid (HS12.out.far hG (fun _ h => h ▸ hlt))
                    clear hR hG
                    have HY := Lib.hid hy
                    clear hy
                    go_wp2_with fail
                    go_ret
                    obtain ⟨rfl⟩ : some ((.sel b li lf cw .none .none), ws.drop jw) = y := by simpa [Bags.ok] using HY.out
                    exact ⟨HG13.out, _, jw, rfl, HS13.out.rep, by omega, rfl, HR13.out⟩
                  · rw [if_pos tgwi] at hy
                    have Tgwi := Lib.hid (show isT (Bags.hd (ws.drop jw)) 1 [Bags.str "group"] = true from tgwi)
                    have := lt_of_is tgwi (by decide)
                    clear tgwi
                    go_wp2_with fail
                    refine (takes_yes hC HR12.out (by omega) (by omega) Tgwi.out (by decide) (by decide) rfl (by first | rfl | simp) rfl).mono ?_
                    rintro e w13 ⟨rfl, hR, hG⟩
                    have HR13 := Lib.hid hR
                    have HG13 := Lib.hid (HG12.out.t hG)
                    have HS13 := Lib.hid (HS12.out.far hG (fun _ h => h ▸ hlt))
                    clear hR hG
                    cases tbwi : (Bags.hd (ws.drop (jw + 1))).is 1 [Bags.str "by"]
                    · rw [if_neg (by simp [tbwi])] at hy
                      have Tbwi := Lib.hid (show isT (Bags.hd (ws.drop (jw + 1))) 1 [Bags.str "by"] = false from tbwi)
                      clear tbwi
                      obtain ⟨rfl⟩ : none = y := by simpa [Bags.miss] using hy
                      clear hy
                      go_wp2_with fail
                      refine (must_no hC Tbwi.out HR13.out (by omega) (by omega) (by decide) (by decide) rfl (by first | rfl | simp) rfl).mono ?_
                      rintro e w14 ⟨rfl, hR, hG⟩
                      have HR14 := Lib.hid hR
                      have HG14 := Lib.hid (HG13.out.t hG)
                      have HS14 := Lib.hid (HS13.out.far hG (fun _ h => h ▸ hlt))
                      clear hR hG
                      exact ⟨rfl, HG14.out, rfl, _, HR14.out⟩
                    · rw [if_pos tbwi] at hy
                      have Tbwi := Lib.hid (show isT (Bags.hd (ws.drop (jw + 1))) 1 [Bags.str "by"] = true from tbwi)
                      have := lt_of_is tbwi (by decide)
                      clear tbwi
                      go_wp2_with fail
                      refine (must_yes hC Tbwi.out HR13.out (by omega) (by omega) (by decide) (by decide) rfl (by first | rfl | simp) rfl).mono ?_
                      rintro e w14 ⟨rfl, hR, hG⟩
                      have HR14 := Lib.hid hR
                      have HG14 := Lib.hid (HG13.out.t hG)
                      have HS14 := Lib.hid (HS13.out.far hG (fun _ h => h ▸ hlt))
                      clear hR hG
                      cases q with
                      | zero => simp [Bags.par, Bags.R.andThen] at hy
                      | succ q0 =>
                      rcases Bags.andThen_some hy with ⟨hp, rfl⟩ | ⟨lg, rest, hp, hy⟩
                      · rw [Bags.par] at hp
                        have HP := Lib.hid hp
                        clear hp
                        go_wp2_with fail
                        refine (commas_column hC hz HCo.out (n := q0) (by omega) HR14.out (by omega) HP.out).mono ?_
                        rintro e w15 ⟨hG, rfl, hR⟩
                        have HR15 := Lib.hid hR
                        have HG15 := Lib.hid (HG14.out.t hG)
                        have HS15 := Lib.hid (HS14.out.far hG (fun _ h => h ▸ hlt))
                        clear hR hG
                        exact ⟨rfl, HG15.out, rfl, HR15.out⟩
                      · obtain ⟨jg, _, _, rfl⟩ := drop_of hp (by omega)
                        rw [Bags.par] at hp
                        have HP := Lib.hid hp
                        clear hp
                        go_wp2_with fail
                        refine (commas_column hC hz HCo.out (n := q0) (by omega) HR14.out (by omega) HP.out).mono ?_
                        rintro e w15 ⟨hG, x15, jx, rfl, hx, hjx, hdr, hR⟩
                        obtain rfl : jg = jx := drop_inj (by assumption) hjx hdr
                        obtain ⟨sa15, sn15, sc15, rfl⟩ := VL.slice hx
                        have hrow := Lib.hid ((VL.row repCols.fr hx HG14.out.size HS14.out.blk.lt))
                        have HR15 := Lib.hid hR
                        have HG15 := Lib.hid (HG14.out.t hG)
                        have HS15 := Lib.hid (HS14.out.far hG (fun _ h => h ▸ hlt))
                        clear hR hG
                        have bb := HS15.out.blk.cell 4
                        have gg := HS15.out.blk.free 4
                        simp at bb
                        have hgB := HS15.out.hg
                        have HS16 := Lib.hid (HS15.out.put_g hrow.out)
                        have HR16 := Lib.hid (HR15.out.fr (HS15.out.put 4 (.slice sa15 sn15 sc15)) (by omega) (by omega))
                        have HG16 := Lib.hid (HG15.out.set (p := ⟨w3.heap.size, 4, none⟩) (.inl HS15.out.hg) (.slice sa15 sn15 sc15))
                        clear hrow hx
                        simp only [List.tail_drop] at hy
                        cases thwi : (Bags.hd (ws.drop jg)).is 1 [Bags.str "having"]
                        · rw [if_neg (by simp [thwi])] at hy
                          have Thwi := Lib.hid (show isT (Bags.hd (ws.drop jg)) 1 [Bags.str "having"] = false from thwi)
                          clear thwi
                          go_wp2_with fail
                          refine (takes_no hC HR16.out (by omega) (by omega) Thwi.out (by decide) (by decide) rfl (by first | rfl | simp) rfl).mono ?_
                          rintro e w17 ⟨rfl, hR, hG⟩
                          have HR17 := Lib.hid hR
                          have HG17 := Lib.hid (HG16.out.t hG)
                          have HS17 := Lib.hid (HS16.out.far hG (fun _ h => h ▸ hlt))
                          clear hR hG
                          have HY := Lib.hid hy
                          clear hy
                          go_wp2_with fail
                          go_ret
                          obtain ⟨rfl⟩ : some ((.sel b li lf cw lg .none), ws.drop jg) = y := by simpa [Bags.ok] using HY.out
                          exact ⟨HG17.out, _, jg, rfl, HS17.out.rep, by omega, rfl, HR17.out⟩
                        · rw [if_pos thwi] at hy
                          have Thwi := Lib.hid (show isT (Bags.hd (ws.drop jg)) 1 [Bags.str "having"] = true from thwi)
                          have := lt_of_is thwi (by decide)
                          clear thwi
                          go_wp2_with fail
                          refine (takes_yes hC HR16.out (by omega) (by omega) Thwi.out (by decide) (by decide) rfl (by first | rfl | simp) rfl).mono ?_
                          rintro e w17 ⟨rfl, hR, hG⟩
                          have HR17 := Lib.hid hR
                          have HG17 := Lib.hid (HG16.out.t hG)
                          have HS17 := Lib.hid (HS16.out.far hG (fun _ h => h ▸ hlt))
                          clear hR hG
                          rcases Bags.andThen_some hy with ⟨hp, rfl⟩ | ⟨ch, rest, hp, hy⟩
                          · have HP := Lib.hid hp
                            clear hp
                            go_wp2_with fail
                            refine (HCd.out (q0 + 1) (by omega) _ (jg + 1) _ trivial HR17.out (by omega) HP.out).mono ?_
                            rintro e w18 ⟨hG, rfl, hR⟩
                            have HR18 := Lib.hid hR
                            have HG18 := Lib.hid (HG17.out.t hG)
                            have HS18 := Lib.hid (HS17.out.far hG (fun _ h => h ▸ hlt))
                            clear hR hG
                            exact ⟨rfl, HG18.out, rfl, HR18.out⟩
                          · obtain ⟨jh, _, _, rfl⟩ := drop_of hp (by omega)
                            have HP := Lib.hid hp
                            clear hp
                            go_wp2_with fail
                            refine (HCd.out (q0 + 1) (by omega) _ (jg + 1) _ trivial HR17.out (by omega) HP.out).mono ?_
                            rintro e w18 ⟨hG, x18, jx, rfl, hx, hjx, hdr, hR⟩
                            obtain rfl : jh = jx := drop_inj (by assumption) hjx hdr
                            obtain ⟨tp18, vp18, rfl⟩ := rep.iface hx
                            have hrow := Lib.hid ((rep_opt (show rep _ _ _ _ from hx) HG17.out.size HS17.out.blk.lt))
                            have HR18 := Lib.hid hR
                            have HG18 := Lib.hid (HG17.out.t hG)
                            have HS18 := Lib.hid (HS17.out.far hG (fun _ h => h ▸ hlt))
                            clear hR hG
                            have bb := HS18.out.blk.cell 5
                            have gg := HS18.out.blk.free 5
                            simp at bb
                            have hgB := HS18.out.hg
                            have HS19 := Lib.hid (HS18.out.put_h hrow.out)
                            have HR19 := Lib.hid (HR18.out.fr (HS18.out.put 5 (.iface tp18 vp18)) (by omega) (by omega))
                            have HG19 := Lib.hid (HG18.out.set (p := ⟨w3.heap.size, 5, none⟩) (.inl HS18.out.hg) (.iface tp18 vp18))
                            clear hrow hx
                            have HY := Lib.hid hy
                            clear hy
                            go_wp2_with fail
                            go_ret
                            obtain ⟨rfl⟩ : some ((.sel b li lf cw lg ch), ws.drop jh) = y := by simpa [Bags.ok] using HY.out
                            exact ⟨HG19.out, _, jh, rfl, HS19.out.rep, by omega, rfl, HR19.out⟩
      · rw [if_pos ts] at hy
        have Ts := Lib.hid (show isT (Bags.hd (ws.drop p)) 5 [Bags.str "*"] = true from ts)
        have := lt_of_is ts (by decide)
        clear ts
        go_wp2_with fail
        refine (takes_yes hC HRa.out (by omega) (by omega) Ts.out (by decide) (by decide) rfl (by first | rfl | simp) rfl).mono ?_
        rintro e w4 ⟨rfl, hR, hG⟩
        have HR4 := Lib.hid hR
        have HG4 := Lib.hid (HGa.out.t hG)
        have HS4 := Lib.hid (HS3.out.far hG (fun _ h => h ▸ hlt))
        clear hR hG
        rw [Bags.par] at hy
        simp only [List.tail_drop] at hy
        cases tfs : (Bags.hd (ws.drop (p + 1))).is 1 [Bags.str "from"]
        · rw [if_neg (by simp [tfs])] at hy
          have Tfs := Lib.hid (show isT (Bags.hd (ws.drop (p + 1))) 1 [Bags.str "from"] = false from tfs)
          clear tfs
          obtain ⟨rfl⟩ : none = y := by simpa [Bags.miss] using hy
          clear hy
          go_wp2_with fail
          refine (must_no hC Tfs.out HR4.out (by omega) (by omega) (by decide) (by decide) rfl (by first | rfl | simp) rfl).mono ?_
          rintro e w5 ⟨rfl, hR, hG⟩
          have HR5 := Lib.hid hR
          have HG5 := Lib.hid (HG4.out.t hG)
          have HS5 := Lib.hid (HS4.out.far hG (fun _ h => h ▸ hlt))
          clear hR hG
          exact ⟨rfl, HG5.out, rfl, _, HR5.out⟩
        · rw [if_pos tfs] at hy
          have Tfs := Lib.hid (show isT (Bags.hd (ws.drop (p + 1))) 1 [Bags.str "from"] = true from tfs)
          have := lt_of_is tfs (by decide)
          clear tfs
          go_wp2_with fail
          refine (must_yes hC Tfs.out HR4.out (by omega) (by omega) (by decide) (by decide) rfl (by first | rfl | simp) rfl).mono ?_
          rintro e w5 ⟨rfl, hR, hG⟩
          have HR5 := Lib.hid hR
          have HG5 := Lib.hid (HG4.out.t hG)
          have HS5 := Lib.hid (HS4.out.far hG (fun _ h => h ▸ hlt))
          clear hR hG
          cases m with
          | zero => simp [Bags.par, Bags.R.andThen] at hy
          | succ k0 =>
          rcases Bags.andThen_some hy with ⟨hp, rfl⟩ | ⟨lf, rest, hp, hy⟩
          · rw [Bags.par] at hp
            have HP := Lib.hid hp
            clear hp
            go_wp2_with fail
            refine (commas_source hC hz HSo.out (n := k0) (by omega) HR5.out (by omega) HP.out).mono ?_
            rintro e w6 ⟨hG, rfl, hR⟩
            have HR6 := Lib.hid hR
            have HG6 := Lib.hid (HG5.out.t hG)
            have HS6 := Lib.hid (HS5.out.far hG (fun _ h => h ▸ hlt))
            clear hR hG
            exact ⟨rfl, HG6.out, rfl, HR6.out⟩
          · obtain ⟨jf, _, _, rfl⟩ := drop_of hp (by omega)
            rw [Bags.par] at hp
            have HP := Lib.hid hp
            clear hp
            go_wp2_with fail
            refine (commas_source hC hz HSo.out (n := k0) (by omega) HR5.out (by omega) HP.out).mono ?_
            rintro e w6 ⟨hG, x6, jx, rfl, hx, hjx, hdr, hR⟩
            obtain rfl : jf = jx := drop_inj (by assumption) hjx hdr
            obtain ⟨sa6, sn6, sc6, rfl⟩ := VL.slice hx
            have hrow := Lib.hid ((VL.row rep0.fr hx HG5.out.size HS5.out.blk.lt))
            have HR6 := Lib.hid hR
            have HG6 := Lib.hid (HG5.out.t hG)
            have HS6 := Lib.hid (HS5.out.far hG (fun _ h => h ▸ hlt))
            clear hR hG
            have bb := HS6.out.blk.cell 2
            have gg := HS6.out.blk.free 2
            simp at bb
            have hgB := HS6.out.hg
            have HS7 := Lib.hid (HS6.out.put_f hrow.out)
            have HR7 := Lib.hid (HR6.out.fr (HS6.out.put 2 (.slice sa6 sn6 sc6)) (by omega) (by omega))
            have HG7 := Lib.hid (HG6.out.set (p := ⟨w3.heap.size, 2, none⟩) (.inl HS6.out.hg) (.slice sa6 sn6 sc6))
            clear hrow hx
            simp only [List.tail_drop] at hy
            cases tws : (Bags.hd (ws.drop jf)).is 1 [Bags.str "where"]
            · rw [if_neg (by simp [tws])] at hy
              have Tws := Lib.hid (show isT (Bags.hd (ws.drop jf)) 1 [Bags.str "where"] = false from tws)
              clear tws
              go_wp2_with fail
              refine (takes_no hC HR7.out (by omega) (by omega) Tws.out (by decide) (by decide) rfl (by first | rfl | simp) rfl).mono ?_
              rintro e w8 ⟨rfl, hR, hG⟩
              have HR8 := Lib.hid hR
              have HG8 := Lib.hid (HG7.out.t hG)
              have HS8 := Lib.hid (HS7.out.far hG (fun _ h => h ▸ hlt))
              clear hR hG
              obtain ⟨k, hk⟩ : ∃ k, k = k0 + 1 := ⟨_, rfl⟩
              rw [← hk] at hy
              cases k with
              | zero => simp [Bags.par] at hy
              | succ q =>
              rw [Bags.par] at hy
              simp only [List.tail_drop] at hy
              cases tgns : (Bags.hd (ws.drop jf)).is 1 [Bags.str "group"]
              · rw [if_neg (by simp [tgns])] at hy
                have Tgns := Lib.hid (show isT (Bags.hd (ws.drop jf)) 1 [Bags.str "group"] = false from tgns)
                clear tgns
                go_wp2_with fail
                refine (takes_no hC HR8.out (by omega) (by omega) Tgns.out (by decide) (by decide) rfl (by first | rfl | simp) rfl).mono ?_
                rintro e w9 ⟨rfl, hR, hG⟩
                have HR9 := Lib.hid hR
                have HG9 := Lib.hid (HG8.out.t hG)
                have HS9 := Lib.hid (HS8.out.far hG (fun _ h => h ▸ hlt))
                clear hR hG
                have HY := Lib.hid hy
                clear hy
                go_wp2_with fail
                go_ret
                obtain ⟨rfl⟩ : some ((.sel b .none lf .none .none .none), ws.drop jf) = y := by simpa [Bags.ok] using HY.out
                exact ⟨HG9.out, _, jf, rfl, HS9.out.rep, by omega, rfl, HR9.out⟩
              · rw [if_pos tgns] at hy
                have Tgns := Lib.hid (show isT (Bags.hd (ws.drop jf)) 1 [Bags.str "group"] = true from tgns)
                have := lt_of_is tgns (by decide)
                clear tgns
                go_wp2_with fail
                refine (takes_yes hC HR8.out (by omega) (by omega) Tgns.out (by decide) (by decide) rfl (by first | rfl | simp) rfl).mono ?_
                rintro e w9 ⟨rfl, hR, hG⟩
                have HR9 := Lib.hid hR
                have HG9 := Lib.hid (HG8.out.t hG)
                have HS9 := Lib.hid (HS8.out.far hG (fun _ h => h ▸ hlt))
                clear hR hG
                cases tbns : (Bags.hd (ws.drop (jf + 1))).is 1 [Bags.str "by"]
                · rw [if_neg (by simp [tbns])] at hy
                  have Tbns := Lib.hid (show isT (Bags.hd (ws.drop (jf + 1))) 1 [Bags.str "by"] = false from tbns)
                  clear tbns
                  obtain ⟨rfl⟩ : none = y := by simpa [Bags.miss] using hy
                  clear hy
                  go_wp2_with fail
                  refine (must_no hC Tbns.out HR9.out (by omega) (by omega) (by decide) (by decide) rfl (by first | rfl | simp) rfl).mono ?_
                  rintro e w10 ⟨rfl, hR, hG⟩
                  have HR10 := Lib.hid hR
                  have HG10 := Lib.hid (HG9.out.t hG)
                  have HS10 := Lib.hid (HS9.out.far hG (fun _ h => h ▸ hlt))
                  clear hR hG
                  exact ⟨rfl, HG10.out, rfl, _, HR10.out⟩
                · rw [if_pos tbns] at hy
                  have Tbns := Lib.hid (show isT (Bags.hd (ws.drop (jf + 1))) 1 [Bags.str "by"] = true from tbns)
                  have := lt_of_is tbns (by decide)
                  clear tbns
                  go_wp2_with fail
                  refine (must_yes hC Tbns.out HR9.out (by omega) (by omega) (by decide) (by decide) rfl (by first | rfl | simp) rfl).mono ?_
                  rintro e w10 ⟨rfl, hR, hG⟩
                  have HR10 := Lib.hid hR
                  have HG10 := Lib.hid (HG9.out.t hG)
                  have HS10 := Lib.hid (HS9.out.far hG (fun _ h => h ▸ hlt))
                  clear hR hG
                  cases q with
                  | zero => simp [Bags.par, Bags.R.andThen] at hy
                  | succ q0 =>
                  rcases Bags.andThen_some hy with ⟨hp, rfl⟩ | ⟨lg, rest, hp, hy⟩
                  · rw [Bags.par] at hp
                    have HP := Lib.hid hp
                    clear hp
                    go_wp2_with fail
                    refine (commas_column hC hz HCo.out (n := q0) (by omega) HR10.out (by omega) HP.out).mono ?_
                    rintro e w11 ⟨hG, rfl, hR⟩
                    have HR11 := Lib.hid hR
                    have HG11 := Lib.hid (HG10.out.t hG)
                    have HS11 := Lib.hid (HS10.out.far hG (fun _ h => h ▸ hlt))
                    clear hR hG
                    exact ⟨rfl, HG11.out, rfl, HR11.out⟩
                  · obtain ⟨jg, _, _, rfl⟩ := drop_of hp (by omega)
                    rw [Bags.par] at hp
                    have HP := Lib.hid hp
                    clear hp
                    go_wp2_with fail
                    refine (commas_column hC hz HCo.out (n := q0) (by omega) HR10.out (by omega) HP.out).mono ?_
                    rintro e w11 ⟨hG, x11, jx, rfl, hx, hjx, hdr, hR⟩
                    obtain rfl : jg = jx := drop_inj (by assumption) hjx hdr
                    obtain ⟨sa11, sn11, sc11, rfl⟩ := VL.slice hx
                    have hrow := Lib.hid ((VL.row repCols.fr hx HG10.out.size HS10.out.blk.lt))
                    have HR11 := Lib.hid hR
                    have HG11 := Lib.hid (HG10.out.t hG)
                    have HS11 := Lib.hid (HS10.out.far hG (fun _ h => h ▸ hlt))
                    clear hR hG
                    have bb := HS11.out.blk.cell 4
                    have gg := HS11.out.blk.free 4
                    simp at bb
                    have hgB := HS11.out.hg
                    have HS12 := Lib.hid (HS11.out.put_g hrow.out)
                    have HR12 := Lib.hid (HR11.out.fr (HS11.out.put 4 (.slice sa11 sn11 sc11)) (by omega) (by omega))
                    have HG12 := Lib.hid (HG11.out.set (p := ⟨w3.heap.size, 4, none⟩) (.inl HS11.out.hg) (.slice sa11 sn11 sc11))
                    clear hrow hx
                    simp only [List.tail_drop] at hy
                    cases thns : (Bags.hd (ws.drop jg)).is 1 [Bags.str "having"]
                    · rw [if_neg (by simp [thns])] at hy
                      have Thns := Lib.hid (show isT (Bags.hd (ws.drop jg)) 1 [Bags.str "having"] = false from thns)
                      clear thns
                      go_wp2_with fail
                      refine (takes_no hC HR12.out (by omega) (by omega) Thns.out (by decide) (by decide) rfl (by first | rfl | simp) rfl).mono ?_
                      rintro e w13 ⟨rfl, hR, hG⟩
                      have HR13 := Lib.hid hR
                      have HG13 := Lib.hid (HG12.out.t hG)
                      have HS13 := Lib.hid (HS12.out.far hG (fun _ h => h ▸ hlt))
                      clear hR hG
                      have HY := Lib.hid hy
                      clear hy
                      go_wp2_with fail
                      go_ret
                      obtain ⟨rfl⟩ : some ((.sel b .none lf .none lg .none), ws.drop jg) = y := by simpa [Bags.ok] using HY.out
                      exact ⟨HG13.out, _, jg, rfl, HS13.out.rep, by omega, rfl, HR13.out⟩
                    · rw [if_pos thns] at hy
                      have Thns := Lib.hid (show isT (Bags.hd (ws.drop jg)) 1 [Bags.str "having"] = true from thns)
                      have := lt_of_is thns (by decide)
                      clear thns
                      go_wp2_with fail
                      refine (takes_yes hC HR12.out (by omega) (by omega) Thns.out (by decide) (by decide) rfl (by first | rfl | simp) rfl).mono ?_
                      rintro e w13 ⟨rfl, hR, hG⟩
                      have HR13 := Lib.hid hR
                      have HG13 := Lib.hid (HG12.out.t hG)
                      have HS13 := Lib.hid (HS12.out.far hG (fun _ h => h ▸ hlt))
                      clear hR hG
                      rcases Bags.andThen_some hy with ⟨hp, rfl⟩ | ⟨ch, rest, hp, hy⟩
                      · have HP := Lib.hid hp
                        clear hp
                        go_wp2_with fail
                        refine (HCd.out (q0 + 1) (by omega) _ (jg + 1) _ trivial HR13.out (by omega) HP.out).mono ?_
                        rintro e w14 ⟨hG, rfl, hR⟩
                        have HR14 := Lib.hid hR
                        have HG14 := Lib.hid (HG13.out.t hG)
                        have HS14 := Lib.hid (HS13.out.far hG (fun _ h => h ▸ hlt))
                        clear hR hG
                        exact ⟨rfl, HG14.out, rfl, HR14.out⟩
                      · obtain ⟨jh, _, _, rfl⟩ := drop_of hp (by omega)
                        have HP := Lib.hid hp
                        clear hp
                        go_wp2_with fail
                        refine (HCd.out (q0 + 1) (by omega) _ (jg + 1) _ trivial HR13.out (by omega) HP.out).mono ?_
                        rintro e w14 ⟨hG, x14, jx, rfl, hx, hjx, hdr, hR⟩
                        obtain rfl : jh = jx := drop_inj (by assumption) hjx hdr
                        obtain ⟨tp14, vp14, rfl⟩ := rep.iface hx
                        have hrow := Lib.hid ((rep_opt (show rep _ _ _ _ from hx) HG13.out.size HS13.out.blk.lt))
                        have HR14 := Lib.hid hR
                        have HG14 := Lib.hid (HG13.out.t hG)
                        have HS14 := Lib.hid (HS13.out.far hG (fun _ h => h ▸ hlt))
                        clear hR hG
                        have bb := HS14.out.blk.cell 5
                        have gg := HS14.out.blk.free 5
                        simp at bb
                        have hgB := HS14.out.hg
                        have HS15 := Lib.hid (HS14.out.put_h hrow.out)
                        have HR15 := Lib.hid (HR14.out.fr (HS14.out.put 5 (.iface tp14 vp14)) (by omega) (by omega))
                        have HG15 := Lib.hid (HG14.out.set (p := ⟨w3.heap.size, 5, none⟩) (.inl HS14.out.hg) (.iface tp14 vp14))
                        clear hrow hx
                        have HY := Lib.hid hy
                        clear hy
                        go_wp2_with fail
                        go_ret
                        obtain ⟨rfl⟩ : some ((.sel b .none lf .none lg ch), ws.drop jh) = y := by simpa [Bags.ok] using HY.out
                        exact ⟨HG15.out, _, jh, rfl, HS15.out.rep, by omega, rfl, HR15.out⟩
            · rw [if_pos tws] at hy
              have Tws := Lib.hid (show isT (Bags.hd (ws.drop jf)) 1 [Bags.str "where"] = true from tws)
              have := lt_of_is tws (by decide)
              clear tws
              go_wp2_with fail
              refine (takes_yes hC HR7.out (by omega) (by omega) Tws.out (by decide) (by decide) rfl (by first | rfl | simp) rfl).mono ?_
              rintro e w8 ⟨rfl, hR, hG⟩
              have HR8 := Lib.hid hR
              have HG8 := Lib.hid (HG7.out.t hG)
              have HS8 := Lib.hid (HS7.out.far hG (fun _ h => h ▸ hlt))
              clear hR hG
              rcases Bags.andThen_some hy with ⟨hp, rfl⟩ | ⟨cw, rest, hp, hy⟩
              · have HP := Lib.hid hp
                clear hp
                go_wp2_with fail
                refine (HCd.out (k0 + 1) (by omega) _ (jf + 1) _ trivial HR8.out (by omega) HP.out).mono ?_
                rintro e w9 ⟨hG, rfl, hR⟩
                have HR9 := Lib.hid hR
                have HG9 := Lib.hid (HG8.out.t hG)
                have HS9 := Lib.hid (HS8.out.far hG (fun _ h => h ▸ hlt))
                clear hR hG
                exact ⟨rfl, HG9.out, rfl, HR9.out⟩
              · obtain ⟨jw, _, _, rfl⟩ := drop_of hp (by omega)
                have HP := Lib.hid hp
                clear hp
                go_wp2_with fail
                refine (HCd.out (k0 + 1) (by omega) _ (jf + 1) _ trivial HR8.out (by omega) HP.out).mono ?_
                rintro e w9 ⟨hG, x9, jx, rfl, hx, hjx, hdr, hR⟩
                obtain rfl : jw = jx := drop_inj (by assumption) hjx hdr
                obtain ⟨tp9, vp9, rfl⟩ := rep.iface hx
                have hrow := Lib.hid ((rep_opt (show rep _ _ _ _ from hx) HG8.out.size HS8.out.blk.lt))
                have HR9 := Lib.hid hR
                have HG9 := Lib.hid (HG8.out.t hG)
                have HS9 := Lib.hid (HS8.out.far hG (fun _ h => h ▸ hlt))
                clear hR hG
                have bb := HS9.out.blk.cell 3
                have gg := HS9.out.blk.free 3
                simp at bb
                have hgB := HS9.out.hg
                have HS10 := Lib.hid (HS9.out.put_w hrow.out)
                have HR10 := Lib.hid (HR9.out.fr (HS9.out.put 3 (.iface tp9 vp9)) (by omega) (by omega))
                have HG10 := Lib.hid (HG9.out.set (p := ⟨w3.heap.size, 3, none⟩) (.inl HS9.out.hg) (.iface tp9 vp9))
                clear hrow hx
                obtain ⟨k, hk⟩ : ∃ k, k = k0 + 1 := ⟨_, rfl⟩
                rw [← hk] at hy
                cases k with
                | zero => simp [Bags.par] at hy
                | succ q =>
                rw [Bags.par] at hy
                simp only [List.tail_drop] at hy
                cases tgws : (Bags.hd (ws.drop jw)).is 1 [Bags.str "group"]
                · rw [if_neg (by simp [tgws])] at hy
                  have Tgws := Lib.hid (show isT (Bags.hd (ws.drop jw)) 1 [Bags.str "group"] = false from tgws)
                  clear tgws
                  go_wp2_with fail
                  refine (takes_no hC HR10.out (by omega) (by omega) Tgws.out (by decide) (by decide) rfl (by first | rfl | simp) rfl).mono ?_
                  rintro e w11 ⟨rfl, hR, hG⟩
                  have HR11 := Lib.hid hR
                  have HG11 := Lib.hid (HG10.out.t hG)
                  have HS11 := Lib.hid (HS10.out.far hG (fun _ h => h ▸ hlt))
                  clear hR hG
                  have HY := Lib.hid hy
                  clear hy
                  go_wp2_with fail
                  go_ret
                  obtain ⟨rfl⟩ : some ((.sel b .none lf cw .none .none), ws.drop jw) = y := by simpa [Bags.ok] using HY.out
                  exact ⟨HG11.out, _, jw, rfl, HS11.out.rep, by omega, rfl, HR11.out⟩
                · rw [if_pos tgws] at hy
                  have Tgws := Lib.hid (show isT (Bags.hd (ws.drop jw)) 1 [Bags.str "group"] = true from tgws)
                  have := lt_of_is tgws (by decide)
                  clear tgws
                  go_wp2_with fail
                  refine (takes_yes hC HR10.out (by omega) (by omega) Tgws.out (by decide) (by decide) rfl (by first | rfl | simp) rfl).mono ?_
                  rintro e w11 ⟨rfl, hR, hG⟩
                  have HR11 := Lib.hid hR
                  have HG11 := Lib.hid (HG10.out.t hG)
                  have HS11 := Lib.hid (HS10.out.far hG (fun _ h => h ▸ hlt))
                  clear hR hG
                  cases tbws : (Bags.hd (ws.drop (jw + 1))).is 1 [Bags.str "by"]
                  · rw [if_neg (by simp [tbws])] at hy
                    have Tbws := Lib.hid (show isT (Bags.hd (ws.drop (jw + 1))) 1 [Bags.str "by"] = false from tbws)
                    clear tbws
                    obtain ⟨rfl⟩ : none = y := by simpa [Bags.miss] using hy
                    clear hy
                    go_wp2_with fail
                    refine (must_no hC Tbws.out HR11.out (by omega) (by omega) (by decide) (by decide) rfl (by first | rfl | simp) rfl).mono ?_
                    rintro e w12 ⟨rfl, hR, hG⟩
                    have HR12 := Lib.hid hR
                    have HG12 := Lib.hid (HG11.out.t hG)
                    have HS12 := Lib.hid (HS11.out.far hG (fun _ h => h ▸ hlt))
                    clear hR hG
                    exact ⟨rfl, HG12.out, rfl, _, HR12.out⟩
                  · rw [if_pos tbws] at hy
                    have Tbws := Lib.hid (show isT (Bags.hd (ws.drop (jw + 1))) 1 [Bags.str "by"] = true from tbws)
                    have := lt_of_is tbws (by decide)
                    clear tbws
                    go_wp2_with fail
                    refine (must_yes hC Tbws.out HR11.out (by omega) (by omega) (by decide) (by decide) rfl (by first | rfl | simp) rfl).mono ?_
                    rintro e w12 ⟨rfl, hR, hG⟩
                    have HR12 := Lib.hid hR
                    have HG12 := Lib.hid (HG11.out.t hG)
                    have HS12 := Lib.hid (HS11.out.far hG (fun _ h => h ▸ hlt))
                    clear hR hG
                    cases q with
                    | zero => simp [Bags.par, Bags.R.andThen] at hy
                    | succ q0 =>
                    rcases Bags.andThen_some hy with ⟨hp, rfl⟩ | ⟨lg, rest, hp, hy⟩
                    · rw [Bags.par] at hp
                      have HP := Lib.hid hp
                      clear hp
                      go_wp2_with fail
                      refine (commas_column hC hz HCo.out (n := q0) (by omega) HR12.out (by omega) HP.out).mono ?_
                      rintro e w13 ⟨hG, rfl, hR⟩
                      have HR13 := Lib.hid hR
                      have HG13 := Lib.hid (HG12.out.t hG)
                      have HS13 := Lib.hid (HS12.out.far hG (fun _ h => h ▸ hlt))
                      clear hR hG
                      exact ⟨rfl, HG13.out, rfl, HR13.out⟩
                    · obtain ⟨jg, _, _, rfl⟩ := drop_of hp (by omega)
                      rw [Bags.par] at hp
                      have HP := Lib.hid hp
                      clear hp
                      go_wp2_with fail
                      refine (commas_column hC hz HCo.out (n := q0) (by omega) HR12.out (by omega) HP.out).mono ?_
                      rintro e w13 ⟨hG, x13, jx, rfl, hx, hjx, hdr, hR⟩
                      obtain rfl : jg = jx := drop_inj (by assumption) hjx hdr
                      obtain ⟨sa13, sn13, sc13, rfl⟩ := VL.slice hx
                      have hrow := Lib.hid ((VL.row repCols.fr hx HG12.out.size HS12.out.blk.lt))
                      have HR13 := Lib.hid hR
                      have HG13 := Lib.hid (HG12.out.t hG)
                      have HS13 := Lib.hid (HS12.out.far hG (fun _ h => h ▸ hlt))
                      clear hR hG
                      have bb := HS13.out.blk.cell 4
                      have gg := HS13.out.blk.free 4
                      simp at bb
                      have hgB := HS13.out.hg
                      have HS14 := Lib.hid (HS13.out.put_g hrow.out)
                      have HR14 := Lib.hid (HR13.out.fr (HS13.out.put 4 (.slice sa13 sn13 sc13)) (by omega) (by omega))
                      have HG14 := Lib.hid (HG13.out.set (p := ⟨w3.heap.size, 4, none⟩) (.inl HS13.out.hg) (.slice sa13 sn13 sc13))
                      clear hrow hx
                      simp only [List.tail_drop] at hy
                      cases thws : (Bags.hd (ws.drop jg)).is 1 [Bags.str "having"]
                      · rw [if_neg (by simp [thws])] at hy
                        have Thws := Lib.hid (show isT (Bags.hd (ws.drop jg)) 1 [Bags.str "having"] = false from thws)
                        clear thws
                        go_wp2_with fail
                        refine (takes_no hC HR14.out (by omega) (by omega) Thws.out (by decide) (by decide) rfl (by first | rfl | simp) rfl).mono ?_
                        rintro e w15 ⟨rfl, hR, hG⟩
                        have HR15 := Lib.hid hR
                        have HG15 := Lib.hid (HG14.out.t hG)
                        have HS15 := Lib.hid (HS14.out.far hG (fun _ h => h ▸ hlt))
                        clear hR hG
                        have HY := Lib.hid hy
                        clear hy
                        go_wp2_with fail
                        go_ret
                        obtain ⟨rfl⟩ : some ((.sel b .none lf cw lg .none), ws.drop jg) = y := by simpa [Bags.ok] using HY.out
                        exact ⟨HG15.out, _, jg, rfl, HS15.out.rep, by omega, rfl, HR15.out⟩
                      · rw [if_pos thws] at hy
                        have Thws := Lib.hid (show isT (Bags.hd (ws.drop jg)) 1 [Bags.str "having"] = true from thws)
                        have := lt_of_is thws (by decide)
                        clear thws
                        go_wp2_with fail
                        refine (takes_yes hC HR14.out (by omega) (by omega) Thws.out (by decide) (by decide) rfl (by first | rfl | simp) rfl).mono ?_
                        rintro e w15 ⟨rfl, hR, hG⟩
                        have HR15 := Lib.hid hR
                        have HG15 := Lib.hid (HG14.out.t hG)
                        have HS15 := Lib.hid (HS14.out.far hG (fun _ h => h ▸ hlt))
                        clear hR hG
                        rcases Bags.andThen_some hy with ⟨hp, rfl⟩ | ⟨ch, rest, hp, hy⟩
                        · have HP := Lib.hid hp
                          clear hp
                          go_wp2_with fail
                          refine (HCd.out (q0 + 1) (by omega) _ (jg + 1) _ trivial HR15.out (by omega) HP.out).mono ?_
                          rintro e w16 ⟨hG, rfl, hR⟩
                          have HR16 := Lib.hid hR
                          have HG16 := Lib.hid (HG15.out.t hG)
                          have HS16 := Lib.hid (HS15.out.far hG (fun _ h => h ▸ hlt))
                          clear hR hG
                          exact ⟨rfl, HG16.out, rfl, HR16.out⟩
                        · obtain ⟨jh, _, _, rfl⟩ := drop_of hp (by omega)
                          have HP := Lib.hid hp
                          clear hp
                          go_wp2_with fail
                          refine (HCd.out (q0 + 1) (by omega) _ (jg + 1) _ trivial HR15.out (by omega) HP.out).mono ?_
                          rintro e w16 ⟨hG, x16, jx, rfl, hx, hjx, hdr, hR⟩
                          obtain rfl : jh = jx := drop_inj (by assumption) hjx hdr
                          obtain ⟨tp16, vp16, rfl⟩ := rep.iface hx
                          have hrow := Lib.hid ((rep_opt (show rep _ _ _ _ from hx) HG15.out.size HS15.out.blk.lt))
                          have HR16 := Lib.hid hR
                          have HG16 := Lib.hid (HG15.out.t hG)
                          have HS16 := Lib.hid (HS15.out.far hG (fun _ h => h ▸ hlt))
                          clear hR hG
                          have bb := HS16.out.blk.cell 5
                          have gg := HS16.out.blk.free 5
                          simp at bb
                          have hgB := HS16.out.hg
                          have HS17 := Lib.hid (HS16.out.put_h hrow.out)
                          have HR17 := Lib.hid (HR16.out.fr (HS16.out.put 5 (.iface tp16 vp16)) (by omega) (by omega))
                          have HG17 := Lib.hid (HG16.out.set (p := ⟨w3.heap.size, 5, none⟩) (.inl HS16.out.hg) (.iface tp16 vp16))
                          clear hrow hx
                          have HY := Lib.hid hy
                          clear hy
                          go_wp2_with fail
                          go_ret
                          obtain ⟨rfl⟩ : some ((.sel b .none lf cw lg ch), ws.drop jh) = y := by simpa [Bags.ok] using HY.out
                          exact ⟨HG17.out, _, jh, rfl, HS17.out.rep, by omega, rfl, HR17.out⟩
  · rw [if_pos h1] at hy
    have H1 := Lib.hid (show isT (Bags.hd (ws.drop i)) 5 [Bags.str "("] = true from h1)
    have HY := Lib.hid hy
    clear hy h1
    rcases y with _ | ⟨t, rest⟩
    · go_enter Tryz.func81, Tryz.ntmps81
      go_wp2_with (first | (go_at_call 82; refine (is_at hC HR1.out hi H1.out (by decide) (by decide) rfl (by first | rfl | simp) rfl).mono ?_; rintro e w2 ⟨rfl, hR, hG⟩; have HR2 := Lib.hid hR; have HG2 := Lib.hid hG; clear hR hG) | (go_at_call 101; refine (HQ.out n (by omega) _ i _ trivial HR2.out hi HY.out).mono ?_; rintro e w3 ⟨hG, rfl, hR⟩; have HR3 := Lib.hid hR; have HG3 := Lib.hid hG; clear hR hG))
      exact ⟨rfl, HG2.out.t HG3.out, rfl, HR3.out⟩
    · go_enter Tryz.func81, Tryz.ntmps81
      go_wp2_with (first | (go_at_call 82; refine (is_at hC HR1.out hi H1.out (by decide) (by decide) rfl (by first | rfl | simp) rfl).mono ?_; rintro e w2 ⟨rfl, hR, hG⟩; have HR2 := Lib.hid hR; have HG2 := Lib.hid hG; clear hR hG) | (go_at_call 101; refine (HQ.out n (by omega) _ i _ trivial HR2.out hi HY.out).mono ?_; rintro e w3 ⟨hG, x3, j3, rfl, hx, hj3, rfl, hR⟩; have HR3 := Lib.hid hR; have HG3 := Lib.hid hG; clear hR hG))
      go_ret
      exact ⟨HG2.out.t HG3.out, _, j3, rfl, rep.fr (Fr.refl (fun _ => False) _) (fun _ h => h.elim) HG2.out.size hx, hj3, rfl, HR3.out⟩
end Go.Proofs.YtoephflcjllaaaaGreatDoor
