/- Walks: subquery, query. -/
import Derived.Test.YtoephflcjllaaaaGreatDoorJ13
namespace Go.Proofs.YtoephflcjllaaaaGreatDoor
open Go.RowKit
set_option linter.unusedVariables false

/-- What was made on the way may be written. -/
theorem new_fr {r : Nat} {S : Nat → Prop} {w w1 w2 : World} (h : Fr (· = r) w w1) (h' : Fr S w1 w2) (hS : ∀ k, S k → k = r ∨ w.heap.size ≤ k) : Fr (· = r) w w2 :=
  h.trans h' fun k hk hs => by rcases hS k hs with h1 | h1
                               · exact h1
                               · omega

set_option maxRecDepth 100000 in
set_option maxHeartbeats 2000000 in
theorem subquery_any (hC : ContSaid) {r A : Nat} {ws : List Bags.W} (hz : ws.length ≤ 1000) {N : Nat} (hM : Meth 63 V1 .query N r A ws) : Meth 101 V1 .sub (N + 1) r A ws := by
  intro n hn W i y hok hr hi hy
  cases n with
  | zero => simp [Bags.par] at hy
  | succ n =>
  have hmf := hmf
  have HR := Lib.hid hr
  rw [Bags.par, List.tail_drop] at hy
  have hlt := hr.lt
  have hltA := hr.ltA
  have hb1 : Blk ((W.alloc (.cells #[.pointer (some ⟨r, 0, none⟩)] 140)).alloc (.cells #[.nilIface] 94)) W.heap.size _ _ := (Blk.made W 140 #[.pointer (some ⟨r, 0, none⟩)]).alloc _
  have hb2 : Blk ((W.alloc (.cells #[.pointer (some ⟨r, 0, none⟩)] 140)).alloc (.cells #[.nilIface] 94)) (W.heap.size + 1) _ _ := Blk.made' (by simp) 94 #[.nilIface]
  obtain ⟨hno, hyes⟩ := brackq hC hz hM (n := n) (by omega) hb1 hb2 (by omega) (by omega) (by omega) ((hr.alloc _).alloc _) hi hy
  have hf0 : Fr (· = r) W ((W.alloc (.cells #[.pointer (some ⟨r, 0, none⟩)] 140)).alloc (.cells #[.nilIface] 94)) := ((Fr.refl _ _).alloc _).alloc _
  rcases y with _ | ⟨t, rest⟩
  · have HC := Lib.hid (hno rfl)
    clear hno hyes hy hM hr hb1 hb2
    go_enter Tryz.func101, Tryz.ntmps101
    go_wp2_with (go_at_call 124; refine HC.out.mono ?_; rintro e w2 ⟨⟨hG, rfl, hR⟩, _⟩)
    exact ⟨rfl, new_fr hf0 hG (fun k hk => by omega), rfl, hR⟩
  · obtain ⟨j, hj, rfl, hc⟩ := hyes t rest rfl
    have HC := Lib.hid hc
    clear hno hyes hy hM hr hb1 hb2 hc
    go_enter Tryz.func101, Tryz.ntmps101
    go_wp2_with (go_at_call 124; refine HC.out.mono ?_; rintro e w2 ⟨hG, ⟨x, rfl, rfl, v, hb, hv⟩, hR⟩; obtain ⟨tp, vp, rfl⟩ := hv.iface; have d0 := hb.cell 0; have g0 := hb.free 0; simp at d0; have HO := Lib.hid (And.intro hG (And.intro hb (And.intro hv hR))); clear hG hb hv hR)
    obtain ⟨hG, hb, hv, hR⟩ := HO.out
    have hput := hb.put 0 (.iface tp vp)
    have hf : Fr (· = W.heap.size + 1) w2 (w2.setCell ⟨W.heap.size + 1, 0, none⟩ (.iface tp vp)) := (Fr.refl (· = W.heap.size + 1) w2).set (.inr rfl) _
    refine bodyPost_ret (results_cell1 rfl _ _ (W.heap.size + 1) 94 _ _ rfl hput rfl rfl) rfl ⟨?_, _, j, rfl, hv.fr hf (fun k h => by simp; omega) (by simp; omega), hj, rfl, hR.fr hf (by omega) (by omega)⟩
    exact new_fr hf0 (hG.t (hf.mono (fun _ _ h => .inr h))) (fun k hk => by omega)

theorem tx_all (s : Bags.Str) : tx s ++ (⟨#[32, 97, 108, 108]⟩ : ByteArray) = tx (str2 s true) := by
  apply bs_inj
  simp [bs, tx, str2, Bags.str, ByteArray.data_append]
  decide
set_option maxRecDepth 100000 in
set_option maxHeartbeats 2000000 in
theorem query_any (hC : ContSaid) {r A : Nat} {ws : List Bags.W} (hz : ws.length ≤ 1000) (hT : ∀ j, (Bags.hd (ws.drop j)).text.length ≤ 1000) {N : Nat} (hM : Meth 81 V1 .core N r A ws) : Meth 63 V1 .query (N + 1) r A ws := by
  intro n hn W i y hok hr hi hy
  cases n with
  | zero => simp [Bags.par] at hy
  | succ n =>
  have hwt := word_text
  have htx := tx_all
  have HR0 := Lib.hid hr
  have HM := Lib.hid hM
  rw [Bags.par] at hy
  have hlt := hr.lt
  rcases Bags.andThen_some hy with ⟨hp, rfl⟩ | ⟨c, rest, hp, hy0⟩
  · have HP := Lib.hid hp
    clear hr hy hM hp
    go_enter Tryz.func63, Tryz.ntmps63
    go_wp2_with (first | (go_at_call 81; refine (HM.out n (by omega) _ i _ trivial HR0.out hi HP.out).mono ?_; rintro e w2 ⟨hG, rfl, hR⟩; have HR2 := Lib.hid hR; have HG2 := Lib.hid hG; clear hR hG))
    exact ⟨rfl, HG2.out, rfl, HR2.out⟩
  · have HP := Lib.hid hp
    have HY := Lib.hid hy0
    clear hr hy hy0 hM hp
    go_enter Tryz.func63, Tryz.ntmps63
    go_wp2_with (first | (go_at_call 81; refine (HM.out n (by omega) _ i _ trivial HR0.out hi HP.out).mono ?_; rintro e w2 ⟨hG, x2, j2, rfl, hx, hj2, rfl, hR⟩; have HR2 := Lib.hid hR; have HG2 := Lib.hid hG; clear hR hG; have HX := Lib.hid hx; clear hx))
    have HX0 := Lib.hid (show ∃ (c0 : Bags.T) (j0 m0 : Nat), m0 ≤ n ∧ V1 w2 W.heap.size c0 x2 ∧ j0 ≤ ws.length ∧ Rdr w2 r A ws j0 ∧ Fr (· = r) W w2 ∧ Bags.par m0 (.queryL c0) (ws.drop j0) = some y from ⟨c, j2, n, Nat.le_refl _, HX.out, hj2, HR2.out, HG2.out, HY.out⟩)
    clear HX HR2 HG2 HY HP
    go_loopw [3] (fun x wr => ∃ (c0 : Bags.T) (j0 m0 : Nat), m0 ≤ n ∧ V1 wr W.heap.size c0 x ∧ j0 ≤ ws.length ∧ Rdr wr r A ws j0 ∧ Fr (· = r) W wr ∧ Bags.par m0 (.queryL c0) (ws.drop j0) = some y)
      (fun _ wr => ws.length + 1 - atOf wr r)
    case atStart => exact HX0.out
    case round =>
      clear HX0 hj2 j2
      obtain ⟨c, j, m, hm, hx, hj, hR, hfr, hy⟩ := hrel
      obtain ⟨tp, vp, rfl⟩ := rep.iface hx
      have HX := Lib.hid (show rep _ _ _ _ from hx)
      have HR := Lib.hid hR
      have HG := Lib.hid hfr
      clear hx hR hfr
      cases m with
      | zero => simp [Bags.par] at hy
      | succ m =>
        rw [Bags.par] at hy
        simp only [List.tail_drop] at hy
        cases h1 : (Bags.hd (ws.drop j)).is 1 Bags.setOps
        · rw [if_neg (by simp [h1])] at hy
          have H1 := Lib.hid (show isT (Bags.hd (ws.drop j)) 1 Bags.setOps = false from h1)
          have HY := Lib.hid hy
          clear hy h1
          go_wp2_with (first | (go_at_call 82; refine (is_at hC HR.out hj H1.out (by decide) (by decide) rfl (by first | rfl | simp) rfl).mono ?_; rintro e w2 ⟨rfl, hR, hG⟩; have HR2 := Lib.hid hR; have HG2 := Lib.hid hG; clear hR hG))
          go_ret
          obtain ⟨rfl⟩ : some (c, ws.drop j) = y := by simpa [Bags.ok] using HY.out
          exact ⟨HG.out.t HG2.out, _, j, rfl, HX.out.fr HG2.out (fun _ h => h ▸ hlt) (Nat.le_refl _), hj, rfl, HR2.out⟩
        · rw [if_pos h1] at hy
          have hj1 := lt_of_is h1 (by decide)
          have H1 := Lib.hid (show isT (Bags.hd (ws.drop j)) 1 Bags.setOps = true from h1)
          have H1s := Lib.hid (Bags.is_sort h1)
          cases h2 : (Bags.hd (ws.drop (j + 1))).is 1 [Bags.str "all"]
          · rw [if_neg (by simp [h2])] at hy
            have H2 := Lib.hid (show isT (Bags.hd (ws.drop (j + 1))) 1 [Bags.str "all"] = false from h2)
            clear h1 h2
            rcases Bags.andThen_some hy with ⟨hp, rfl⟩ | ⟨b, rest, hp, hy2⟩
            · have HP := Lib.hid hp
              clear hp
              go_wp2_with (first | (go_at_call 82; refine (is_at hC HR.out hj H1.out (by decide) (by decide) rfl (by first | rfl | simp) rfl).mono ?_; rintro e w2 ⟨rfl, hR, hG⟩; have HR2 := Lib.hid hR; have HG2 := Lib.hid hG; clear hR hG) | (go_at_call 64; refine (must_sort hC HR2.out hj (by omega) H1s.out).mono ?_; rintro e w3 ⟨rfl, hR, hG⟩; have HR3 := Lib.hid hR; have HG3 := Lib.hid hG; clear hR hG) | (go_at_call 83; refine (takes_no hC HR3.out (by omega) (by omega) H2.out (by decide) (by decide) rfl (by first | rfl | simp) rfl).mono ?_; rintro e w4 ⟨rfl, hR, hG⟩; have HR4 := Lib.hid hR; have HG4 := Lib.hid hG; clear hR hG) | (go_at_call 81; refine (HM.out m (by omega) _ (j + 1) _ trivial HR4.out (by omega) HP.out).mono ?_; rintro e w5 ⟨hG, rfl, hR⟩; have HR5 := Lib.hid hR; have HG5 := Lib.hid hG; clear hR hG))
              exact ⟨rfl, (((HG.out.t HG2.out).t HG3.out).t HG4.out).t HG5.out, rfl, HR5.out⟩
            · obtain ⟨j9, q1, q2, rfl⟩ := drop_of hp (by omega)
              have HP := Lib.hid hp
              have HY := Lib.hid hy2
              clear hp hy2
              go_wp2_with (first | (go_at_call 82; refine (is_at hC HR.out hj H1.out (by decide) (by decide) rfl (by first | rfl | simp) rfl).mono ?_; rintro e w2 ⟨rfl, hR, hG⟩; have HR2 := Lib.hid hR; have HG2 := Lib.hid hG; clear hR hG) | (go_at_call 64; refine (must_sort hC HR2.out hj (by omega) H1s.out).mono ?_; rintro e w3 ⟨rfl, hR, hG⟩; have HR3 := Lib.hid hR; have HG3 := Lib.hid hG; clear hR hG) | (go_at_call 83; refine (takes_no hC HR3.out (by omega) (by omega) H2.out (by decide) (by decide) rfl (by first | rfl | simp) rfl).mono ?_; rintro e w4 ⟨rfl, hR, hG⟩; have HR4 := Lib.hid hR; have HG4 := Lib.hid hG; clear hR hG) | (go_at_call 81; refine (HM.out m (by omega) _ (j + 1) _ trivial HR4.out (by omega) HP.out).mono ?_; rintro e w5 ⟨hG, x5, j5, rfl, hx, hj5, hdr, hR⟩; have HR5 := Lib.hid hR; have HG5 := Lib.hid hG; clear hR hG; obtain rfl : j9 = j5 := drop_inj q2 hj5 hdr; obtain ⟨tq, vq, rfl⟩ := hx.iface; have HZ := Lib.hid (show rep _ _ _ _ from hx); clear hx))
              have hF := (((HG.out.t HG2.out).t HG3.out).t HG4.out).t HG5.out
              have hs4 := (((HG.out.t HG2.out).t HG3.out).t HG4.out).size
              have hfa := (Fr.refl (fun _ => False) w5).alloc (.cells #[.string (tx (Bags.hd (ws.drop j)).text), .iface tp vp, .iface tq vq] 183)
              have HREL := Lib.hid (show ∃ (c0 : Bags.T) (j0 m0 : Nat), m0 ≤ n ∧ V1 (w5.alloc (.cells #[.string (tx (Bags.hd (ws.drop j)).text), .iface tp vp, .iface tq vq] 183)) W.heap.size c0 (.iface 179 (.pointer (some ⟨w5.heap.size, 0, none⟩))) ∧ j0 ≤ ws.length ∧ Rdr (w5.alloc (.cells #[.string (tx (Bags.hd (ws.drop j)).text), .iface tp vp, .iface tq vq] 183)) r A ws j0 ∧ Fr (· = r) W (w5.alloc (.cells #[.string (tx (Bags.hd (ws.drop j)).text), .iface tp vp, .iface tq vq] 183)) ∧ Bags.par m0 (.queryL c0) (ws.drop j0) = some y from
                ⟨.comb (Bags.hd (ws.drop j)).text false c b, j9, m, by omega, (show rep _ _ _ _ from ⟨_, _, (HX.out.fr (((HG2.out.t HG3.out).t HG4.out).t HG5.out) (fun _ h => h ▸ hlt) (Nat.le_refl _)).fr hfa (fun _ h => h.elim) (Nat.le_refl _), HZ.out.fr hfa (fun _ h => h.elim) hs4, _, hF.size, rfl, Blk.made _ _ _⟩), q2, HR5.out.alloc _, hF.alloc _, HY.out⟩)
              have hat := (HR5.out.alloc (.cells #[.string (tx (Bags.hd (ws.drop j)).text), .iface tp vp, .iface tq vq] 183)).atOf
              have hat' := HR.out.atOf
              go_roundw
              case rel => exact HREL.out
              case measure => omega
          · rw [if_pos h2] at hy
            have hj2 := lt_of_is h2 (by decide)
            have H2 := Lib.hid (show isT (Bags.hd (ws.drop (j + 1))) 1 [Bags.str "all"] = true from h2)
            have hsz : (tx (Bags.hd (ws.drop j)).text).size ≤ 1000 := hT j
            have hsz2 : ¬ 9223372036854775807 < (tx (Bags.hd (ws.drop j)).text).size + 4 := by omega
            clear h1 h2
            rcases Bags.andThen_some hy with ⟨hp, rfl⟩ | ⟨b, rest, hp, hy2⟩
            · have HP := Lib.hid hp
              clear hp
              go_wp2_with (first | (go_at_call 82; refine (is_at hC HR.out hj H1.out (by decide) (by decide) rfl (by first | rfl | simp) rfl).mono ?_; rintro e w2 ⟨rfl, hR, hG⟩; have HR2 := Lib.hid hR; have HG2 := Lib.hid hG; clear hR hG) | (go_at_call 64; refine (must_sort hC HR2.out hj (by omega) H1s.out).mono ?_; rintro e w3 ⟨rfl, hR, hG⟩; have HR3 := Lib.hid hR; have HG3 := Lib.hid hG; clear hR hG) | (go_at_call 83; refine (takes_yes hC HR3.out (by omega) (by omega) H2.out (by decide) (by decide) rfl (by first | rfl | simp) rfl).mono ?_; rintro e w4 ⟨rfl, hR, hG⟩; have HR4 := Lib.hid hR; have HG4 := Lib.hid hG; clear hR hG) | (go_at_call 81; refine (HM.out m (by omega) _ (j + 1 + 1) _ trivial HR4.out (by omega) HP.out).mono ?_; rintro e w5 ⟨hG, rfl, hR⟩; have HR5 := Lib.hid hR; have HG5 := Lib.hid hG; clear hR hG))
              exact ⟨rfl, (((HG.out.t HG2.out).t HG3.out).t HG4.out).t HG5.out, rfl, HR5.out⟩
            · obtain ⟨j9, q1, q2, rfl⟩ := drop_of hp (by omega)
              have HP := Lib.hid hp
              have HY := Lib.hid hy2
              clear hp hy2
              go_wp2_with (first | (go_at_call 82; refine (is_at hC HR.out hj H1.out (by decide) (by decide) rfl (by first | rfl | simp) rfl).mono ?_; rintro e w2 ⟨rfl, hR, hG⟩; have HR2 := Lib.hid hR; have HG2 := Lib.hid hG; clear hR hG) | (go_at_call 64; refine (must_sort hC HR2.out hj (by omega) H1s.out).mono ?_; rintro e w3 ⟨rfl, hR, hG⟩; have HR3 := Lib.hid hR; have HG3 := Lib.hid hG; clear hR hG) | (go_at_call 83; refine (takes_yes hC HR3.out (by omega) (by omega) H2.out (by decide) (by decide) rfl (by first | rfl | simp) rfl).mono ?_; rintro e w4 ⟨rfl, hR, hG⟩; have HR4 := Lib.hid hR; have HG4 := Lib.hid hG; clear hR hG) | (go_at_call 81; refine (HM.out m (by omega) _ (j + 1 + 1) _ trivial HR4.out (by omega) HP.out).mono ?_; rintro e w5 ⟨hG, x5, j5, rfl, hx, hj5, hdr, hR⟩; have HR5 := Lib.hid hR; have HG5 := Lib.hid hG; clear hR hG; obtain rfl : j9 = j5 := drop_inj q2 hj5 hdr; obtain ⟨tq, vq, rfl⟩ := hx.iface; have HZ := Lib.hid (show rep _ _ _ _ from hx); clear hx))
              have hF := (((HG.out.t HG2.out).t HG3.out).t HG4.out).t HG5.out
              have hs4 := (((HG.out.t HG2.out).t HG3.out).t HG4.out).size
              have hfa := (Fr.refl (fun _ => False) w5).alloc (.cells #[.string (tx (str2 (Bags.hd (ws.drop j)).text true)), .iface tp vp, .iface tq vq] 183)
              have HREL := Lib.hid (show ∃ (c0 : Bags.T) (j0 m0 : Nat), m0 ≤ n ∧ V1 (w5.alloc (.cells #[.string (tx (str2 (Bags.hd (ws.drop j)).text true)), .iface tp vp, .iface tq vq] 183)) W.heap.size c0 (.iface 179 (.pointer (some ⟨w5.heap.size, 0, none⟩))) ∧ j0 ≤ ws.length ∧ Rdr (w5.alloc (.cells #[.string (tx (str2 (Bags.hd (ws.drop j)).text true)), .iface tp vp, .iface tq vq] 183)) r A ws j0 ∧ Fr (· = r) W (w5.alloc (.cells #[.string (tx (str2 (Bags.hd (ws.drop j)).text true)), .iface tp vp, .iface tq vq] 183)) ∧ Bags.par m0 (.queryL c0) (ws.drop j0) = some y from
                ⟨.comb (Bags.hd (ws.drop j)).text true c b, j9, m, by omega, (show rep _ _ _ _ from ⟨_, _, (HX.out.fr (((HG2.out.t HG3.out).t HG4.out).t HG5.out) (fun _ h => h ▸ hlt) (Nat.le_refl _)).fr hfa (fun _ h => h.elim) (Nat.le_refl _), HZ.out.fr hfa (fun _ h => h.elim) hs4, _, hF.size, rfl, Blk.made _ _ _⟩), q2, HR5.out.alloc _, hF.alloc _, HY.out⟩)
              have hat := (HR5.out.alloc (.cells #[.string (tx (str2 (Bags.hd (ws.drop j)).text true)), .iface tp vp, .iface tq vq] 183)).atOf
              have hat' := HR.out.atOf
              go_roundw
              case rel => exact HREL.out
              case measure => omega
end Go.Proofs.YtoephflcjllaaaaGreatDoor
