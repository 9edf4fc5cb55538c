/- Walks: basic. -/
import Derived.Test.YtoephflcjllaaaaGreatDoorJ14
namespace Go.Proofs.YtoephflcjllaaaaGreatDoor
open Go.RowKit
set_option linter.unusedVariables false
set_option linter.unusedSimpArgs false

/-- The two variables of a closure: the reader's pointer, and where the answer goes. -/
structure Two (w : World) (p1 p2 r : Nat) (t1 t2 : TypeId) : Prop where
  one : Blk w p1 t1 #[.pointer (some ⟨r, 0, none⟩)]
  two : ∃ v, Blk w p2 t2 #[v]
theorem Two.far {w w' : World} {p1 p2 r : Nat} {t1 t2 : TypeId} (h : Two w p1 p2 r t1 t2) (hf : Fr (· = r) w w') (h1 : p1 ≠ r) (h2 : p2 ≠ r) : Two w' p1 p2 r t1 t2 :=
  ⟨h.one.fr hf h1, _, h.two.choose_spec.fr hf h2⟩
abbrev SS (r p : Nat) : Nat → Prop := fun k => k = r ∨ k = p
theorem Fr.ss {r p : Nat} {a b c : World} (h : Fr (SS r p) a b) (h' : Fr (· = r) b c) : Fr (SS r p) a c := h.t (h'.mono fun _ _ h => .inl h)

set_option maxRecDepth 100000 in
set_option maxHeartbeats 2000000 in
theorem bclo (hC : ContSaid) {r A : Nat} {ws : List Bags.W} (hz : ws.length ≤ 1000) {N : Nat} (hM : Meth 106 V1 .cond N r A ws) {n : Nat} (hn : n ≤ N) {W : World} {i p1 p2 : Nat} {t1 t2 : TypeId} {x0 : Value} (b1 : Blk W p1 t1 #[.pointer (some ⟨r, 0, none⟩)])
    (b2 : Blk W p2 t2 #[x0]) (hpr : p2 ≠ r) (hpr1 : p1 ≠ r) (hpA : p2 ≠ A) (hr : Rdr W r A ws i) (hi : i ≤ ws.length) {y : Option (Bags.T × List Bags.W)}
    (hy : (if (Bags.hd (ws.drop i)).is 5 [Bags.str "("] then (Bags.par n .cond (ws.drop (i + 1))).andThen fun q r => if (Bags.hd r).is 5 [Bags.str ")"] then Bags.ok q r.tail else Bags.miss else Bags.miss) = some y) :
    (y = none → Calls Tryz.prog 148 #[.pointer (some ⟨p1, 0, none⟩), .pointer (some ⟨p2, 0, none⟩)] W (fun e w' => Does (fun k => k = r ∨ k = p2) r A ws none (fun _ _ => True) W e w' ∧ ∃ v, Blk w' p2 t2 #[v])) ∧
    (∀ t rest, y = some (t, rest) → ∃ j, j ≤ ws.length ∧ rest = ws.drop j ∧
      Calls Tryz.prog 148 #[.pointer (some ⟨p1, 0, none⟩), .pointer (some ⟨p2, 0, none⟩)] W
        (Does (fun k => k = r ∨ k = p2) r A ws (some j) (fun x w' => x = .tuple #[] ∧ ∃ v, Blk w' p2 t2 #[v] ∧ rep w' W.heap.size t [v]) W)) := by
  obtain ⟨hno, hyes⟩ := brackc hC hz hM hn b1 b2 hpr hpr1 hpA hr hi hy
  have hmf := hmf
  have c0 := b1.cell 0
  simp at c0
  refine ⟨fun h => ?_, fun t rest h => ?_⟩
  · have HC := Lib.hid (hno h)
    clear hno hyes hy hM hr b1 b2
    go_enter Tryz.func148, Tryz.ntmps148
    go_wp2_with fail
    refine HC.out.mono ?_
    rintro e w2 ⟨⟨hG, rfl, hR⟩, hI⟩
    exact ⟨rfl, ⟨hG, rfl, hR⟩, hI⟩
  · obtain ⟨j, hj, hr', hc⟩ := hyes t rest h
    have HC := Lib.hid hc
    refine ⟨j, hj, hr', ?_⟩
    clear hno hyes hy hM hr b1 b2 hc
    go_enter Tryz.func148, Tryz.ntmps148
    go_wp2_with fail
    refine HC.out.mono ?_
    rintro e w2 ⟨hG, ⟨x, rfl, rfl, v, hb, hv⟩, hR⟩
    have HO := Lib.hid (And.intro hG (And.intro hb (And.intro hv hR)))
    clear hG hb hv hR
    go_wp2_with fail
    obtain ⟨hG, hb, hv, hR⟩ := HO.out
    exact bodyPost_end (results_none rfl _ _ _) rfl ⟨hG, ⟨_, rfl, rfl, v, hb, hv⟩, hR⟩

set_option maxRecDepth 100000 in
set_option maxHeartbeats 8000000 in
theorem basic_any (hC : ContSaid) {r A : Nat} {ws : List Bags.W} (hz : ws.length ≤ 1000) {N : Nat} (hQ : Meth 101 V1 .sub N r A ws) (hE : Meth 126 V1 .expr N r A ws) (hCd : Meth 106 V1 .cond N r A ws) :
    Meth 144 V1 .basic (N + 1) r A ws := by
  intro n hn W i y hok hr hi hy
  cases n with
  | zero => simp [Bags.par] at hy
  | succ n =>
  have hmf := hmf
  have hwt := word_text
  have HQ := Lib.hid hQ
  have HE := Lib.hid hE
  have HCd := Lib.hid hCd
  rw [Bags.par] at hy
  simp only [List.tail_drop] at hy
  have hlt := hr.lt
  have hltA := hr.ltA
  have hf0 : Fr (· = r) W ((W.alloc (.cells #[.pointer (some ⟨r, 0, none⟩)] 140)).alloc (.cells #[.nilIface] 196)) := ((Fr.refl _ _).alloc _).alloc _
  have HR1 := Lib.hid ((hr.alloc (.cells #[.pointer (some ⟨r, 0, none⟩)] 140)).alloc (.cells #[.nilIface] 196))
  have HG1 := Lib.hid (Fr.refl (SS r (W.heap.size + 1)) ((W.alloc (.cells #[.pointer (some ⟨r, 0, none⟩)] 140)).alloc (.cells #[.nilIface] 196)))
  have HS1 := Lib.hid (show Two ((W.alloc (.cells #[.pointer (some ⟨r, 0, none⟩)] 140)).alloc (.cells #[.nilIface] 196)) W.heap.size (W.heap.size + 1) r 140 196 from ⟨(Blk.made W 140 #[.pointer (some ⟨r, 0, none⟩)]).alloc _, _, Blk.made' (by simp) 196 #[.nilIface]⟩)
  clear hQ hE hCd hr
  go_enter Tryz.func144, Tryz.ntmps144
  cases te : (Bags.hd (ws.drop i)).is 1 [Bags.str "exists"]
  · rw [if_neg (by simp [te])] at hy
    have Te := Lib.hid (show isT (Bags.hd (ws.drop i)) 1 [Bags.str "exists"] = false from te)
    clear te
    go_wp2_with fail
    refine (takes_no hC HR1.out (by omega) (by omega) Te.out (by decide) (by decide) rfl (by first | rfl | simp) rfl).mono ?_
    rintro e w2 ⟨rfl, hR, hG⟩
    have HR2 := Lib.hid hR
    have HG2 := Lib.hid (HG1.out.ss hG)
    have hS := HS1.out.far hG (by omega) (by omega)
    have c2 := hS.one.cell 0
    simp at c2
    have HS2 := Lib.hid hS
    clear hR hG hS
    cases ho1 : (Bags.hd (ws.drop i)).is 5 [Bags.str "("]
    · rw [if_neg (by simp [ho1])] at hy
      have To := Lib.hid (show isT (Bags.hd (ws.drop i)) 5 [Bags.str "("] = false from ho1)
      clear ho1
      go_wp2_with fail
      refine (is_at hC HR2.out (by omega) To.out (by decide) (by decide) rfl (by first | rfl | simp) rfl).mono ?_
      rintro e w3 ⟨rfl, hR, hG⟩
      have HR3 := Lib.hid hR
      have HG3 := Lib.hid (HG2.out.ss hG)
      have hS := HS2.out.far hG (by omega) (by omega)
      have c3 := hS.one.cell 0
      simp at c3
      have HS3 := Lib.hid hS
      clear hR hG hS
      cases n with
      | zero => simp [Bags.par] at hy
      | succ m =>
      rw [Bags.par] at hy
      try simp only [List.tail_drop] at hy
      rcases Bags.andThen_some hy with ⟨hp, rfl⟩ | ⟨ea, rest, hp, hy⟩
      · have HP := Lib.hid hp
        clear hp
        go_wp2_with fail
        refine (HE.out m (by omega) _ i _ trivial HR3.out hi HP.out).mono ?_
        rintro e w4 ⟨hG, rfl, hR⟩
        have HR4 := Lib.hid hR
        have HG4 := Lib.hid (HG3.out.ss hG)
        have hS := HS3.out.far hG (by omega) (by omega)
        have c4 := hS.one.cell 0
        simp at c4
        have HS4 := Lib.hid hS
        clear hR hG hS
        exact ⟨rfl, new_fr hf0 HG4.out (fun k hk => by omega), rfl, HR4.out⟩
      · obtain ⟨ja, _, _, rfl⟩ := drop_of hp (by omega)
        have HP := Lib.hid hp
        clear hp
        go_wp2_with fail
        refine (HE.out m (by omega) _ i _ trivial HR3.out hi HP.out).mono ?_
        rintro e w4 ⟨hG, x4, jx, rfl, hx, hjx, hdr, hR⟩
        obtain rfl : ja = jx := drop_inj (by assumption) hjx hdr
        obtain ⟨tpa, vpa, rfl⟩ := rep.iface hx
        have HXa := Lib.hid (rep.fr (Fr.refl (fun _ => False) _) (fun _ h => h.elim) (by have := HG3.out.size; simp only [World.size_alloc] at this; omega) hx)
        have HR4 := Lib.hid hR
        have HG4 := Lib.hid (HG3.out.ss hG)
        have hS := HS3.out.far hG (by omega) (by omega)
        have c4 := hS.one.cell 0
        simp at c4
        have HS4 := Lib.hid hS
        clear hR hG hS
        clear hx
        try simp only [List.tail_drop] at hy
        cases ti : (Bags.hd (ws.drop ja)).is 1 [Bags.str "is"]
        · rw [if_neg (by simp [ti])] at hy
          have Ti := Lib.hid (show isT (Bags.hd (ws.drop ja)) 1 [Bags.str "is"] = false from ti)
          clear ti
          go_wp2_with fail
          refine (takes_no hC HR4.out (by omega) (by omega) Ti.out (by decide) (by decide) rfl (by first | rfl | simp) rfl).mono ?_
          rintro e w5 ⟨rfl, hR, hG⟩
          have HR5 := Lib.hid hR
          have HG5 := Lib.hid (HG4.out.ss hG)
          have hS := HS4.out.far hG (by omega) (by omega)
          have c5 := hS.one.cell 0
          simp at c5
          have HS5 := Lib.hid hS
          have HXa := Lib.hid (HXa.out.fr hG (fun k h => by omega) (Nat.le_refl _))
          clear hR hG hS
          cases tni : (Bags.hd (ws.drop ja)).is 1 [Bags.str "not", Bags.str "in"]
          · rw [if_neg (by simp [tni])] at hy
            have Tni := Lib.hid (show isT (Bags.hd (ws.drop ja)) 1 [Bags.str "not", Bags.str "in"] = false from tni)
            clear tni
            go_wp2_with fail
            refine (is_at hC HR5.out (by omega) Tni.out (by decide) (by decide) rfl (by first | rfl | simp) rfl).mono ?_
            rintro e w6 ⟨rfl, hR, hG⟩
            have HR6 := Lib.hid hR
            have HG6 := Lib.hid (HG5.out.ss hG)
            have hS := HS5.out.far hG (by omega) (by omega)
            have c6 := hS.one.cell 0
            simp at c6
            have HS6 := Lib.hid hS
            have HXa := Lib.hid (HXa.out.fr hG (fun k h => by omega) (Nat.le_refl _))
            clear hR hG hS
            cases tc : (Bags.hd (ws.drop ja)).is 5 Bags.cmps
            · rw [if_neg (by simp [tc])] at hy
              have Tc := Lib.hid (show isT (Bags.hd (ws.drop ja)) 5 Bags.cmps = false from tc)
              clear tc
              obtain ⟨rfl⟩ : none = y := by simpa [Bags.miss] using hy
              clear hy
              go_wp2_with fail
              refine (must_no hC Tc.out HR6.out (by omega) (by omega) (by decide) (by decide) rfl (by first | rfl | simp) rfl).mono ?_
              rintro e w7 ⟨rfl, hR, hG⟩
              have HR7 := Lib.hid hR
              have HG7 := Lib.hid (HG6.out.ss hG)
              have hS := HS6.out.far hG (by omega) (by omega)
              have c7 := hS.one.cell 0
              simp at c7
              have HS7 := Lib.hid hS
              have HXa := Lib.hid (HXa.out.fr hG (fun k h => by omega) (Nat.le_refl _))
              clear hR hG hS
              exact ⟨rfl, new_fr hf0 HG7.out (fun k hk => by omega), rfl, _, HR7.out⟩
            · rw [if_pos tc] at hy
              have Tc := Lib.hid (show isT (Bags.hd (ws.drop ja)) 5 Bags.cmps = true from tc)
              have Sc := Lib.hid (Bags.is_sort tc)
              have := lt_of_is tc (by decide)
              clear tc
              go_wp2_with fail
              refine (must_yes hC Tc.out HR6.out (by omega) (by omega) (by decide) (by decide) rfl (by first | rfl | simp) rfl).mono ?_
              rintro e w7 ⟨rfl, hR, hG⟩
              have HR7 := Lib.hid hR
              have HG7 := Lib.hid (HG6.out.ss hG)
              have hS := HS6.out.far hG (by omega) (by omega)
              have c7 := hS.one.cell 0
              simp at c7
              have HS7 := Lib.hid hS
              have HXa := Lib.hid (HXa.out.fr hG (fun k h => by omega) (Nat.le_refl _))
              clear hR hG hS
              try simp only [List.tail_drop] at hy
              cases taa : (Bags.hd (ws.drop (ja + 1))).is 1 [Bags.str "any", Bags.str "all"]
              · rw [if_neg (by simp [taa])] at hy
                have Taa := Lib.hid (show isT (Bags.hd (ws.drop (ja + 1))) 1 [Bags.str "any", Bags.str "all"] = false from taa)
                clear taa
                go_wp2_with fail
                refine (is_at hC HR7.out (by omega) Taa.out (by decide) (by decide) rfl (by first | rfl | simp) rfl).mono ?_
                rintro e w8 ⟨rfl, hR, hG⟩
                have HR8 := Lib.hid hR
                have HG8 := Lib.hid (HG7.out.ss hG)
                have hS := HS7.out.far hG (by omega) (by omega)
                have c8 := hS.one.cell 0
                simp at c8
                have HS8 := Lib.hid hS
                have HXa := Lib.hid (HXa.out.fr hG (fun k h => by omega) (Nat.le_refl _))
                clear hR hG hS
                rcases Bags.andThen_some hy with ⟨hp, rfl⟩ | ⟨eb, rest, hp, hy⟩
                · have HP := Lib.hid hp
                  clear hp
                  go_wp2_with fail
                  refine (HE.out m (by omega) _ (ja + 1) _ trivial HR8.out (by omega) HP.out).mono ?_
                  rintro e w9 ⟨hG, rfl, hR⟩
                  have HR9 := Lib.hid hR
                  have HG9 := Lib.hid (HG8.out.ss hG)
                  have hS := HS8.out.far hG (by omega) (by omega)
                  have c9 := hS.one.cell 0
                  simp at c9
                  have HS9 := Lib.hid hS
                  have HXa := Lib.hid (HXa.out.fr hG (fun k h => by omega) (Nat.le_refl _))
                  clear hR hG hS
                  exact ⟨rfl, new_fr hf0 HG9.out (fun k hk => by omega), rfl, HR9.out⟩
                · obtain ⟨jb, _, _, rfl⟩ := drop_of hp (by omega)
                  have HP := Lib.hid hp
                  clear hp
                  go_wp2_with fail
                  refine (HE.out m (by omega) _ (ja + 1) _ trivial HR8.out (by omega) HP.out).mono ?_
                  rintro e w9 ⟨hG, x9, jx, rfl, hx, hjx, hdr, hR⟩
                  obtain rfl : jb = jx := drop_inj (by assumption) hjx hdr
                  obtain ⟨tpb, vpb, rfl⟩ := rep.iface hx
                  have HXb := Lib.hid (rep.fr (Fr.refl (fun _ => False) _) (fun _ h => h.elim) (by have := HG8.out.size; simp only [World.size_alloc] at this; omega) hx)
                  have HR9 := Lib.hid hR
                  have HG9 := Lib.hid (HG8.out.ss hG)
                  have hS := HS8.out.far hG (by omega) (by omega)
                  have c9 := hS.one.cell 0
                  simp at c9
                  have HS9 := Lib.hid hS
                  have HXa := Lib.hid (HXa.out.fr hG (fun k h => by omega) (Nat.le_refl _))
                  clear hR hG hS
                  clear hx
                  try simp only [List.tail_drop] at hy
                  have HY := Lib.hid hy
                  obtain ⟨vv, hvv⟩ := HS9.out.two
                  have db := fun o => (hvv.alloc o).cell 0
                  have gb := fun o => (hvv.alloc o).free 0
                  simp at db
                  have hlv := hvv.lt
                  have HVV := Lib.hid hvv
                  clear hy hvv
                  go_wp2_with fail
                  obtain ⟨rfl⟩ : some ((.cmp (Bags.hd (ws.drop ja)).text ea eb), ws.drop jb) = y := by simpa [Bags.ok] using HY.out
                  have hput := (HVV.out.put 0 (.iface 284 (.pointer (some ⟨w9.heap.size, 0, none⟩)))).alloc (.cells #[.string (tx (Bags.hd (ws.drop ja)).text), .iface tpa vpa, .iface tpb vpb] 285)
                  have hfa := (Fr.refl (fun _ => False) (w9.setCell ⟨(W.heap.size + 1), 0, none⟩ (.iface 284 (.pointer (some ⟨w9.heap.size, 0, none⟩))))).alloc (.cells #[.string (tx (Bags.hd (ws.drop ja)).text), .iface tpa vpa, .iface tpb vpb] 285)
                  have hfs : Fr (· = (W.heap.size + 1)) w9 (w9.setCell ⟨(W.heap.size + 1), 0, none⟩ (.iface 284 (.pointer (some ⟨w9.heap.size, 0, none⟩)))) := (Fr.refl (· = (W.heap.size + 1)) _).set (p := ⟨(W.heap.size + 1), 0, none⟩) (.inr rfl) _
                  refine bodyPost_ret (results_cell1 rfl _ _ (W.heap.size + 1) 196 _ _ rfl hput rfl rfl) rfl ⟨new_fr hf0 ((HG9.out.t (hfs.mono (fun _ _ h => Or.inr h))).alloc (.cells #[.string (tx (Bags.hd (ws.drop ja)).text), .iface tpa vpa, .iface tpb vpb] 285)) (fun k hk => by omega), _, jb, rfl, ?_, by omega, rfl, (HR9.out.fr hfs (by omega) (by omega)).alloc (.cells #[.string (tx (Bags.hd (ws.drop ja)).text), .iface tpa vpa, .iface tpb vpb] 285)⟩
                  exact (show rep ((w9.setCell ⟨(W.heap.size + 1), 0, none⟩ (.iface 284 (.pointer (some ⟨w9.heap.size, 0, none⟩)))).alloc (.cells #[.string (tx (Bags.hd (ws.drop ja)).text), .iface tpa vpa, .iface tpb vpb] 285)) W.heap.size (.cmp (Bags.hd (ws.drop ja)).text ea eb) [(.iface 284 (.pointer (some ⟨w9.heap.size, 0, none⟩)))] from ⟨_, _, (HXa.out.fr hfs (fun k h => by omega) (by omega)).fr hfa (fun _ h => h.elim) (Nat.le_refl _), (HXb.out.fr hfs (fun k h => by omega) (by omega)).fr hfa (fun _ h => h.elim) (Nat.le_refl _), _, (show W.heap.size ≤ w9.heap.size by omega), rfl, Blk.made' (by simp) _ _⟩)
              · rw [if_pos taa] at hy
                have Taa := Lib.hid (show isT (Bags.hd (ws.drop (ja + 1))) 1 [Bags.str "any", Bags.str "all"] = true from taa)
                have Saa := Lib.hid (Bags.is_sort taa)
                have := lt_of_is taa (by decide)
                clear taa
                go_wp2_with fail
                refine (is_at hC HR7.out (by omega) Taa.out (by decide) (by decide) rfl (by first | rfl | simp) rfl).mono ?_
                rintro e w8 ⟨rfl, hR, hG⟩
                have HR8 := Lib.hid hR
                have HG8 := Lib.hid (HG7.out.ss hG)
                have hS := HS7.out.far hG (by omega) (by omega)
                have c8 := hS.one.cell 0
                simp at c8
                have HS8 := Lib.hid hS
                have HXa := Lib.hid (HXa.out.fr hG (fun k h => by omega) (Nat.le_refl _))
                clear hR hG hS
                go_wp2_with fail
                refine (must_sort hC HR8.out (by omega) (by omega) Saa.out).mono ?_
                rintro e w9 ⟨rfl, hR, hG⟩
                have HR9 := Lib.hid hR
                have HG9 := Lib.hid (HG8.out.ss hG)
                have hS := HS8.out.far hG (by omega) (by omega)
                have c9 := hS.one.cell 0
                simp at c9
                have HS9 := Lib.hid hS
                have HXa := Lib.hid (HXa.out.fr hG (fun k h => by omega) (Nat.le_refl _))
                clear hR hG hS
                rcases Bags.andThen_some hy with ⟨hp, rfl⟩ | ⟨eq, rest, hp, hy⟩
                · have HP := Lib.hid hp
                  clear hp
                  go_wp2_with fail
                  refine (HQ.out m (by omega) _ ((ja + 1) + 1) _ trivial HR9.out (by omega) HP.out).mono ?_
                  rintro e w10 ⟨hG, rfl, hR⟩
                  have HR10 := Lib.hid hR
                  have HG10 := Lib.hid (HG9.out.ss hG)
                  have hS := HS9.out.far hG (by omega) (by omega)
                  have c10 := hS.one.cell 0
                  simp at c10
                  have HS10 := Lib.hid hS
                  have HXa := Lib.hid (HXa.out.fr hG (fun k h => by omega) (Nat.le_refl _))
                  clear hR hG hS
                  exact ⟨rfl, new_fr hf0 HG10.out (fun k hk => by omega), rfl, HR10.out⟩
                · obtain ⟨jq, _, _, rfl⟩ := drop_of hp (by omega)
                  have HP := Lib.hid hp
                  clear hp
                  go_wp2_with fail
                  refine (HQ.out m (by omega) _ ((ja + 1) + 1) _ trivial HR9.out (by omega) HP.out).mono ?_
                  rintro e w10 ⟨hG, x10, jx, rfl, hx, hjx, hdr, hR⟩
                  obtain rfl : jq = jx := drop_inj (by assumption) hjx hdr
                  obtain ⟨tpq, vpq, rfl⟩ := rep.iface hx
                  have HXq := Lib.hid (rep.fr (Fr.refl (fun _ => False) _) (fun _ h => h.elim) (by have := HG9.out.size; simp only [World.size_alloc] at this; omega) hx)
                  have HR10 := Lib.hid hR
                  have HG10 := Lib.hid (HG9.out.ss hG)
                  have hS := HS9.out.far hG (by omega) (by omega)
                  have c10 := hS.one.cell 0
                  simp at c10
                  have HS10 := Lib.hid hS
                  have HXa := Lib.hid (HXa.out.fr hG (fun k h => by omega) (Nat.le_refl _))
                  clear hR hG hS
                  clear hx
                  try simp only [List.tail_drop] at hy
                  have HY := Lib.hid hy
                  obtain ⟨vv, hvv⟩ := HS10.out.two
                  have db := fun o => (hvv.alloc o).cell 0
                  have gb := fun o => (hvv.alloc o).free 0
                  simp at db
                  have hlv := hvv.lt
                  have HVV := Lib.hid hvv
                  clear hy hvv
                  go_wp2_with fail
                  obtain ⟨rfl⟩ : some ((.quant (Bags.hd (ws.drop ja)).text (Bags.hd (ws.drop (ja + 1))).text ea eq), ws.drop jq) = y := by simpa [Bags.ok] using HY.out
                  have hput := (HVV.out.put 0 (.iface 281 (.pointer (some ⟨w10.heap.size, 0, none⟩)))).alloc (.cells #[.string (tx (Bags.hd (ws.drop ja)).text), .string (tx (Bags.hd (ws.drop (ja + 1))).text), .iface tpa vpa, .iface tpq vpq] 283)
                  have hfa := (Fr.refl (fun _ => False) (w10.setCell ⟨(W.heap.size + 1), 0, none⟩ (.iface 281 (.pointer (some ⟨w10.heap.size, 0, none⟩))))).alloc (.cells #[.string (tx (Bags.hd (ws.drop ja)).text), .string (tx (Bags.hd (ws.drop (ja + 1))).text), .iface tpa vpa, .iface tpq vpq] 283)
                  have hfs : Fr (· = (W.heap.size + 1)) w10 (w10.setCell ⟨(W.heap.size + 1), 0, none⟩ (.iface 281 (.pointer (some ⟨w10.heap.size, 0, none⟩)))) := (Fr.refl (· = (W.heap.size + 1)) _).set (p := ⟨(W.heap.size + 1), 0, none⟩) (.inr rfl) _
                  refine bodyPost_ret (results_cell1 rfl _ _ (W.heap.size + 1) 196 _ _ rfl hput rfl rfl) rfl ⟨new_fr hf0 ((HG10.out.t (hfs.mono (fun _ _ h => Or.inr h))).alloc (.cells #[.string (tx (Bags.hd (ws.drop ja)).text), .string (tx (Bags.hd (ws.drop (ja + 1))).text), .iface tpa vpa, .iface tpq vpq] 283)) (fun k hk => by omega), _, jq, rfl, ?_, by omega, rfl, (HR10.out.fr hfs (by omega) (by omega)).alloc (.cells #[.string (tx (Bags.hd (ws.drop ja)).text), .string (tx (Bags.hd (ws.drop (ja + 1))).text), .iface tpa vpa, .iface tpq vpq] 283)⟩
                  exact (show rep ((w10.setCell ⟨(W.heap.size + 1), 0, none⟩ (.iface 281 (.pointer (some ⟨w10.heap.size, 0, none⟩)))).alloc (.cells #[.string (tx (Bags.hd (ws.drop ja)).text), .string (tx (Bags.hd (ws.drop (ja + 1))).text), .iface tpa vpa, .iface tpq vpq] 283)) W.heap.size (.quant (Bags.hd (ws.drop ja)).text (Bags.hd (ws.drop (ja + 1))).text ea eq) [(.iface 281 (.pointer (some ⟨w10.heap.size, 0, none⟩)))] from ⟨_, _, (HXa.out.fr hfs (fun k h => by omega) (by omega)).fr hfa (fun _ h => h.elim) (Nat.le_refl _), (HXq.out.fr hfs (fun k h => by omega) (by omega)).fr hfa (fun _ h => h.elim) (Nat.le_refl _), _, (show W.heap.size ≤ w10.heap.size by omega), rfl, Blk.made' (by simp) _ _⟩)
          · rw [if_pos tni] at hy
            have Tni := Lib.hid (show isT (Bags.hd (ws.drop ja)) 1 [Bags.str "not", Bags.str "in"] = true from tni)
            have Sni := Lib.hid (Bags.is_sort tni)
            have := lt_of_is tni (by decide)
            clear tni
            go_wp2_with fail
            refine (is_at hC HR5.out (by omega) Tni.out (by decide) (by decide) rfl (by first | rfl | simp) rfl).mono ?_
            rintro e w6 ⟨rfl, hR, hG⟩
            have HR6 := Lib.hid hR
            have HG6 := Lib.hid (HG5.out.ss hG)
            have hS := HS5.out.far hG (by omega) (by omega)
            have c6 := hS.one.cell 0
            simp at c6
            have HS6 := Lib.hid hS
            have HXa := Lib.hid (HXa.out.fr hG (fun k h => by omega) (Nat.le_refl _))
            clear hR hG hS
            generalize hdno : (Bags.hd (ws.drop ja)).is 1 [Bags.str "not"] = no at hy
            obtain ⟨q, hqq, hlq, hpq⟩ : ∃ q, (if no = true then ws.drop (ja + 1) else ws.drop ja) = ws.drop q ∧ q ≤ ws.length ∧ (if no = true then ja + 1 else ja) = q := by
              cases no
              · exact ⟨ja, by simp, by omega, by simp⟩
              · exact ⟨ja + 1, by simp, by have := lt_of_is hdno (by decide); omega, by simp⟩
            rw [hqq] at hy
            try simp only [List.tail_drop] at hy
            have Hno := Lib.hid (show isT (Bags.hd (ws.drop ja)) 1 [Bags.str "not"] = no from hdno)
            clear hdno hqq
            go_wp2_with fail
            refine (takes_at hC HR6.out (by omega) (by omega) Hno.out (by decide) (by decide) rfl (by first | rfl | simp) rfl).mono ?_
            rintro e w7 ⟨rfl, hR, hG⟩
            rw [hpq] at hR
            have HR7 := Lib.hid hR
            have HG7 := Lib.hid (HG6.out.ss hG)
            have hS := HS6.out.far hG (by omega) (by omega)
            have c7 := hS.one.cell 0
            simp at c7
            have HS7 := Lib.hid hS
            have HXa := Lib.hid (HXa.out.fr hG (fun k h => by omega) (Nat.le_refl _))
            clear hR hG hS
            cases tin : (Bags.hd (ws.drop q)).is 1 [Bags.str "in"]
            · rw [if_neg (by simp [tin])] at hy
              have Tin := Lib.hid (show isT (Bags.hd (ws.drop q)) 1 [Bags.str "in"] = false from tin)
              clear tin
              obtain ⟨rfl⟩ : none = y := by simpa [Bags.miss] using hy
              clear hy
              go_wp2_with fail
              refine (must_no hC Tin.out HR7.out (by omega) (by omega) (by decide) (by decide) rfl (by first | rfl | simp) rfl).mono ?_
              rintro e w8 ⟨rfl, hR, hG⟩
              have HR8 := Lib.hid hR
              have HG8 := Lib.hid (HG7.out.ss hG)
              have hS := HS7.out.far hG (by omega) (by omega)
              have c8 := hS.one.cell 0
              simp at c8
              have HS8 := Lib.hid hS
              have HXa := Lib.hid (HXa.out.fr hG (fun k h => by omega) (Nat.le_refl _))
              clear hR hG hS
              exact ⟨rfl, new_fr hf0 HG8.out (fun k hk => by omega), rfl, _, HR8.out⟩
            · rw [if_pos tin] at hy
              have Tin := Lib.hid (show isT (Bags.hd (ws.drop q)) 1 [Bags.str "in"] = true from tin)
              have Sin := Lib.hid (Bags.is_sort tin)
              have := lt_of_is tin (by decide)
              clear tin
              go_wp2_with fail
              refine (must_yes hC Tin.out HR7.out (by omega) (by omega) (by decide) (by decide) rfl (by first | rfl | simp) rfl).mono ?_
              rintro e w8 ⟨rfl, hR, hG⟩
              have HR8 := Lib.hid hR
              have HG8 := Lib.hid (HG7.out.ss hG)
              have hS := HS7.out.far hG (by omega) (by omega)
              have c8 := hS.one.cell 0
              simp at c8
              have HS8 := Lib.hid hS
              have HXa := Lib.hid (HXa.out.fr hG (fun k h => by omega) (Nat.le_refl _))
              clear hR hG hS
              rcases Bags.andThen_some hy with ⟨hp, rfl⟩ | ⟨eq, rest, hp, hy⟩
              · have HP := Lib.hid hp
                clear hp
                go_wp2_with fail
                refine (HQ.out m (by omega) _ (q + 1) _ trivial HR8.out (by omega) HP.out).mono ?_
                rintro e w9 ⟨hG, rfl, hR⟩
                have HR9 := Lib.hid hR
                have HG9 := Lib.hid (HG8.out.ss hG)
                have hS := HS8.out.far hG (by omega) (by omega)
                have c9 := hS.one.cell 0
                simp at c9
                have HS9 := Lib.hid hS
                have HXa := Lib.hid (HXa.out.fr hG (fun k h => by omega) (Nat.le_refl _))
                clear hR hG hS
                exact ⟨rfl, new_fr hf0 HG9.out (fun k hk => by omega), rfl, HR9.out⟩
              · obtain ⟨jq, _, _, rfl⟩ := drop_of hp (by omega)
                have HP := Lib.hid hp
                clear hp
                go_wp2_with fail
                refine (HQ.out m (by omega) _ (q + 1) _ trivial HR8.out (by omega) HP.out).mono ?_
                rintro e w9 ⟨hG, x9, jx, rfl, hx, hjx, hdr, hR⟩
                obtain rfl : jq = jx := drop_inj (by assumption) hjx hdr
                obtain ⟨tpq, vpq, rfl⟩ := rep.iface hx
                have HXq := Lib.hid (rep.fr (Fr.refl (fun _ => False) _) (fun _ h => h.elim) (by have := HG8.out.size; simp only [World.size_alloc] at this; omega) hx)
                have HR9 := Lib.hid hR
                have HG9 := Lib.hid (HG8.out.ss hG)
                have hS := HS8.out.far hG (by omega) (by omega)
                have c9 := hS.one.cell 0
                simp at c9
                have HS9 := Lib.hid hS
                have HXa := Lib.hid (HXa.out.fr hG (fun k h => by omega) (Nat.le_refl _))
                clear hR hG hS
                clear hx
                try simp only [List.tail_drop] at hy
                have HY := Lib.hid hy
                obtain ⟨vv, hvv⟩ := HS9.out.two
                have db := fun o => (hvv.alloc o).cell 0
                have gb := fun o => (hvv.alloc o).free 0
                simp at db
                have hlv := hvv.lt
                have HVV := Lib.hid hvv
                clear hy hvv
                go_wp2_with fail
                obtain ⟨rfl⟩ : some ((.isin ea no eq), ws.drop jq) = y := by simpa [Bags.ok] using HY.out
                have hput := (HVV.out.put 0 (.iface 278 (.pointer (some ⟨w9.heap.size, 0, none⟩)))).alloc (.cells #[.iface tpa vpa, .bool no, .iface tpq vpq] 280)
                have hfa := (Fr.refl (fun _ => False) (w9.setCell ⟨(W.heap.size + 1), 0, none⟩ (.iface 278 (.pointer (some ⟨w9.heap.size, 0, none⟩))))).alloc (.cells #[.iface tpa vpa, .bool no, .iface tpq vpq] 280)
                have hfs : Fr (· = (W.heap.size + 1)) w9 (w9.setCell ⟨(W.heap.size + 1), 0, none⟩ (.iface 278 (.pointer (some ⟨w9.heap.size, 0, none⟩)))) := (Fr.refl (· = (W.heap.size + 1)) _).set (p := ⟨(W.heap.size + 1), 0, none⟩) (.inr rfl) _
                refine bodyPost_ret (results_cell1 rfl _ _ (W.heap.size + 1) 196 _ _ rfl hput rfl rfl) rfl ⟨new_fr hf0 ((HG9.out.t (hfs.mono (fun _ _ h => Or.inr h))).alloc (.cells #[.iface tpa vpa, .bool no, .iface tpq vpq] 280)) (fun k hk => by omega), _, jq, rfl, ?_, by omega, rfl, (HR9.out.fr hfs (by omega) (by omega)).alloc (.cells #[.iface tpa vpa, .bool no, .iface tpq vpq] 280)⟩
                exact (show rep ((w9.setCell ⟨(W.heap.size + 1), 0, none⟩ (.iface 278 (.pointer (some ⟨w9.heap.size, 0, none⟩)))).alloc (.cells #[.iface tpa vpa, .bool no, .iface tpq vpq] 280)) W.heap.size (.isin ea no eq) [(.iface 278 (.pointer (some ⟨w9.heap.size, 0, none⟩)))] from ⟨_, _, (HXa.out.fr hfs (fun k h => by omega) (by omega)).fr hfa (fun _ h => h.elim) (Nat.le_refl _), (HXq.out.fr hfs (fun k h => by omega) (by omega)).fr hfa (fun _ h => h.elim) (Nat.le_refl _), _, (show W.heap.size ≤ w9.heap.size by omega), rfl, Blk.made' (by simp) _ _⟩)
        · rw [if_pos ti] at hy
          have Ti := Lib.hid (show isT (Bags.hd (ws.drop ja)) 1 [Bags.str "is"] = true from ti)
          have Si := Lib.hid (Bags.is_sort ti)
          have := lt_of_is ti (by decide)
          clear ti
          go_wp2_with fail
          refine (takes_yes hC HR4.out (by omega) (by omega) Ti.out (by decide) (by decide) rfl (by first | rfl | simp) rfl).mono ?_
          rintro e w5 ⟨rfl, hR, hG⟩
          have HR5 := Lib.hid hR
          have HG5 := Lib.hid (HG4.out.ss hG)
          have hS := HS4.out.far hG (by omega) (by omega)
          have c5 := hS.one.cell 0
          simp at c5
          have HS5 := Lib.hid hS
          have HXa := Lib.hid (HXa.out.fr hG (fun k h => by omega) (Nat.le_refl _))
          clear hR hG hS
          generalize hdno : (Bags.hd (ws.drop (ja + 1))).is 1 [Bags.str "not"] = no at hy
          obtain ⟨q, hqq, hlq, hpq⟩ : ∃ q, (if no = true then ws.drop ((ja + 1) + 1) else ws.drop (ja + 1)) = ws.drop q ∧ q ≤ ws.length ∧ (if no = true then (ja + 1) + 1 else (ja + 1)) = q := by
            cases no
            · exact ⟨(ja + 1), by simp, by omega, by simp⟩
            · exact ⟨(ja + 1) + 1, by simp, by have := lt_of_is hdno (by decide); omega, by simp⟩
          rw [hqq] at hy
          try simp only [List.tail_drop] at hy
          have Hno := Lib.hid (show isT (Bags.hd (ws.drop (ja + 1))) 1 [Bags.str "not"] = no from hdno)
          clear hdno hqq
          go_wp2_with fail
          refine (takes_at hC HR5.out (by omega) (by omega) Hno.out (by decide) (by decide) rfl (by first | rfl | simp) rfl).mono ?_
          rintro e w6 ⟨rfl, hR, hG⟩
          rw [hpq] at hR
          have HR6 := Lib.hid hR
          have HG6 := Lib.hid (HG5.out.ss hG)
          have hS := HS5.out.far hG (by omega) (by omega)
          have c6 := hS.one.cell 0
          simp at c6
          have HS6 := Lib.hid hS
          have HXa := Lib.hid (HXa.out.fr hG (fun k h => by omega) (Nat.le_refl _))
          clear hR hG hS
          cases tn : (Bags.hd (ws.drop q)).is 1 [Bags.str "null"]
          · rw [if_neg (by simp [tn])] at hy
            have Tn := Lib.hid (show isT (Bags.hd (ws.drop q)) 1 [Bags.str "null"] = false from tn)
            clear tn
            obtain ⟨rfl⟩ : none = y := by simpa [Bags.miss] using hy
            clear hy
            go_wp2_with fail
            refine (must_no hC Tn.out HR6.out (by omega) (by omega) (by decide) (by decide) rfl (by first | rfl | simp) rfl).mono ?_
            rintro e w7 ⟨rfl, hR, hG⟩
            have HR7 := Lib.hid hR
            have HG7 := Lib.hid (HG6.out.ss hG)
            have hS := HS6.out.far hG (by omega) (by omega)
            have c7 := hS.one.cell 0
            simp at c7
            have HS7 := Lib.hid hS
            have HXa := Lib.hid (HXa.out.fr hG (fun k h => by omega) (Nat.le_refl _))
            clear hR hG hS
            exact ⟨rfl, new_fr hf0 HG7.out (fun k hk => by omega), rfl, _, HR7.out⟩
          · rw [if_pos tn] at hy
            have Tn := Lib.hid (show isT (Bags.hd (ws.drop q)) 1 [Bags.str "null"] = true from tn)
            have Sn := Lib.hid (Bags.is_sort tn)
            have := lt_of_is tn (by decide)
            clear tn
            go_wp2_with fail
            refine (must_yes hC Tn.out HR6.out (by omega) (by omega) (by decide) (by decide) rfl (by first | rfl | simp) rfl).mono ?_
            rintro e w7 ⟨rfl, hR, hG⟩
            have HR7 := Lib.hid hR
            have HG7 := Lib.hid (HG6.out.ss hG)
            have hS := HS6.out.far hG (by omega) (by omega)
            have c7 := hS.one.cell 0
            simp at c7
            have HS7 := Lib.hid hS
            have HXa := Lib.hid (HXa.out.fr hG (fun k h => by omega) (Nat.le_refl _))
            clear hR hG hS
            have HY := Lib.hid hy
            obtain ⟨vv, hvv⟩ := HS7.out.two
            have db := fun o => (hvv.alloc o).cell 0
            have gb := fun o => (hvv.alloc o).free 0
            simp at db
            have hlv := hvv.lt
            have HVV := Lib.hid hvv
            clear hy hvv
            go_wp2_with fail
            obtain ⟨rfl⟩ : some ((.isnull ea no), ws.drop (q + 1)) = y := by simpa [Bags.ok] using HY.out
            have hput := (HVV.out.put 0 (.iface 273 (.pointer (some ⟨w7.heap.size, 0, none⟩)))).alloc (.cells #[.iface tpa vpa, .bool no] 277)
            have hfa := (Fr.refl (fun _ => False) (w7.setCell ⟨(W.heap.size + 1), 0, none⟩ (.iface 273 (.pointer (some ⟨w7.heap.size, 0, none⟩))))).alloc (.cells #[.iface tpa vpa, .bool no] 277)
            have hfs : Fr (· = (W.heap.size + 1)) w7 (w7.setCell ⟨(W.heap.size + 1), 0, none⟩ (.iface 273 (.pointer (some ⟨w7.heap.size, 0, none⟩)))) := (Fr.refl (· = (W.heap.size + 1)) _).set (p := ⟨(W.heap.size + 1), 0, none⟩) (.inr rfl) _
            refine bodyPost_ret (results_cell1 rfl _ _ (W.heap.size + 1) 196 _ _ rfl hput rfl rfl) rfl ⟨new_fr hf0 ((HG7.out.t (hfs.mono (fun _ _ h => Or.inr h))).alloc (.cells #[.iface tpa vpa, .bool no] 277)) (fun k hk => by omega), _, (q + 1), rfl, ?_, by omega, rfl, (HR7.out.fr hfs (by omega) (by omega)).alloc (.cells #[.iface tpa vpa, .bool no] 277)⟩
            exact (show rep ((w7.setCell ⟨(W.heap.size + 1), 0, none⟩ (.iface 273 (.pointer (some ⟨w7.heap.size, 0, none⟩)))).alloc (.cells #[.iface tpa vpa, .bool no] 277)) W.heap.size (.isnull ea no) [(.iface 273 (.pointer (some ⟨w7.heap.size, 0, none⟩)))] from ⟨_, (HXa.out.fr hfs (fun k h => by omega) (by omega)).fr hfa (fun _ h => h.elim) (Nat.le_refl _), _, (show W.heap.size ≤ w7.heap.size by omega), rfl, Blk.made' (by simp) _ _⟩)
    · rw [if_pos ho1] at hy
      have To := Lib.hid (show isT (Bags.hd (ws.drop i)) 5 [Bags.str "("] = true from ho1)
      go_wp2_with fail
      refine (is_at hC HR2.out (by omega) To.out (by decide) (by decide) rfl (by first | rfl | simp) rfl).mono ?_
      rintro e w3 ⟨rfl, hR, hG⟩
      have HR3 := Lib.hid hR
      have HG3 := Lib.hid (HG2.out.ss hG)
      have hS := HS2.out.far hG (by omega) (by omega)
      have c3 := hS.one.cell 0
      simp at c3
      have HS3 := Lib.hid hS
      clear hR hG hS
      have HSo := Lib.hid HS3.out.two.choose_spec
      have hlo := HS3.out.two.choose_spec.lt
      have hrd : ∃ z, (if (Bags.hd (ws.drop i)).is 5 [Bags.str "("] then (Bags.par n .cond (ws.drop (i + 1))).andThen fun q r => if (Bags.hd r).is 5 [Bags.str ")"] then Bags.ok q r.tail else Bags.miss else Bags.miss) = some z ∧ ((z = none ∧ Bags.par n .basicE (ws.drop i) = some y) ∨ (z.isSome ∧ z = y)) := by
        rw [if_pos ho1]
        rcases Bags.tried_some hy with ⟨hp, h⟩ | ⟨t, q, hp, h⟩
        · exact ⟨none, by rw [hp]; rfl, .inl ⟨rfl, h⟩⟩
        · cases hc : (Bags.hd q).is 5 [Bags.str ")"]
          · rw [if_neg (by simp [hc])] at h
            exact ⟨none, by rw [hp]; simp [Bags.R.andThen, hc, Bags.miss], .inl ⟨rfl, h⟩⟩
          · rw [if_pos hc] at h
            obtain ⟨rfl⟩ : some (_, _) = y := by simpa [Bags.ok] using h
            exact ⟨some (t, q.tail), by rw [hp]; simp [Bags.R.andThen, hc, Bags.ok], .inr ⟨rfl, rfl⟩⟩
      clear ho1
      obtain ⟨z, hz1, ⟨rfl, hy⟩ | ⟨hz2, rfl⟩⟩ := hrd
      · have HB := Lib.hid (fun W' (hb : Below w3.heap.size w3 W') => (bclo hC hz HCd.out (n := n) (by omega) (HS3.out.one.below hb (by have := HS3.out.one.lt; omega)) (HSo.out.below hb hlo) (by omega) (by omega) (by omega) (HR3.out.below hb) hi hz1).1 rfl)
        clear hz1
        go_wp2_with fail
        refine (tries_no HR3.out (S := SS r (W.heap.size + 1)) (fun k hk => by simp only [SS] at hk; omega) (.inl rfl) (fun _ _ => by kernel_rfl) (fun W' hb hs => by simpa using HB.out W' hb)).mono ?_
        rintro e w4 ⟨rfl, hR, hG, w1, ⟨vv, hvv⟩, hf1⟩
        have HR4 := Lib.hid hR
        have HG4 := Lib.hid (HG3.out.t hG)
        have hS : Two w4 W.heap.size (W.heap.size + 1) r 140 196 := ⟨HS3.out.one.fr hG (by simp only [SS]; omega), _, hvv.fr hf1 (by omega)⟩
        have c4 := hS.one.cell 0
        simp at c4
        have HS4 := Lib.hid hS
        clear hR hG hS hvv hf1
        cases n with
        | zero => simp [Bags.par] at hy
        | succ m =>
        rw [Bags.par] at hy
        try simp only [List.tail_drop] at hy
        rcases Bags.andThen_some hy with ⟨hp, rfl⟩ | ⟨ea, rest, hp, hy⟩
        · have HP := Lib.hid hp
          clear hp
          go_wp2_with fail
          refine (HE.out m (by omega) _ i _ trivial HR4.out hi HP.out).mono ?_
          rintro e w5 ⟨hG, rfl, hR⟩
          have HR5 := Lib.hid hR
          have HG5 := Lib.hid (HG4.out.ss hG)
          have hS := HS4.out.far hG (by omega) (by omega)
          have c5 := hS.one.cell 0
          simp at c5
          have HS5 := Lib.hid hS
          clear hR hG hS
          exact ⟨rfl, new_fr hf0 HG5.out (fun k hk => by omega), rfl, HR5.out⟩
        · obtain ⟨ja, _, _, rfl⟩ := drop_of hp (by omega)
          have HP := Lib.hid hp
          clear hp
          go_wp2_with fail
          refine (HE.out m (by omega) _ i _ trivial HR4.out hi HP.out).mono ?_
          rintro e w5 ⟨hG, x5, jx, rfl, hx, hjx, hdr, hR⟩
          obtain rfl : ja = jx := drop_inj (by assumption) hjx hdr
          obtain ⟨tpa, vpa, rfl⟩ := rep.iface hx
          have HXa := Lib.hid (rep.fr (Fr.refl (fun _ => False) _) (fun _ h => h.elim) (by have := HG4.out.size; simp only [World.size_alloc] at this; omega) hx)
          have HR5 := Lib.hid hR
          have HG5 := Lib.hid (HG4.out.ss hG)
          have hS := HS4.out.far hG (by omega) (by omega)
          have c5 := hS.one.cell 0
          simp at c5
          have HS5 := Lib.hid hS
          clear hR hG hS
          clear hx
          try simp only [List.tail_drop] at hy
          cases ti : (Bags.hd (ws.drop ja)).is 1 [Bags.str "is"]
          · rw [if_neg (by simp [ti])] at hy
            have Ti := Lib.hid (show isT (Bags.hd (ws.drop ja)) 1 [Bags.str "is"] = false from ti)
            clear ti
            go_wp2_with fail
            refine (takes_no hC HR5.out (by omega) (by omega) Ti.out (by decide) (by decide) rfl (by first | rfl | simp) rfl).mono ?_
            rintro e w6 ⟨rfl, hR, hG⟩
            have HR6 := Lib.hid hR
            have HG6 := Lib.hid (HG5.out.ss hG)
            have hS := HS5.out.far hG (by omega) (by omega)
            have c6 := hS.one.cell 0
            simp at c6
            have HS6 := Lib.hid hS
            have HXa := Lib.hid (HXa.out.fr hG (fun k h => by omega) (Nat.le_refl _))
            clear hR hG hS
            cases tni : (Bags.hd (ws.drop ja)).is 1 [Bags.str "not", Bags.str "in"]
            · rw [if_neg (by simp [tni])] at hy
              have Tni := Lib.hid (show isT (Bags.hd (ws.drop ja)) 1 [Bags.str "not", Bags.str "in"] = false from tni)
              clear tni
              go_wp2_with fail
              refine (is_at hC HR6.out (by omega) Tni.out (by decide) (by decide) rfl (by first | rfl | simp) rfl).mono ?_
              rintro e w7 ⟨rfl, hR, hG⟩
              have HR7 := Lib.hid hR
              have HG7 := Lib.hid (HG6.out.ss hG)
              have hS := HS6.out.far hG (by omega) (by omega)
              have c7 := hS.one.cell 0
              simp at c7
              have HS7 := Lib.hid hS
              have HXa := Lib.hid (HXa.out.fr hG (fun k h => by omega) (Nat.le_refl _))
              clear hR hG hS
              cases tc : (Bags.hd (ws.drop ja)).is 5 Bags.cmps
              · rw [if_neg (by simp [tc])] at hy
                have Tc := Lib.hid (show isT (Bags.hd (ws.drop ja)) 5 Bags.cmps = false from tc)
                clear tc
                obtain ⟨rfl⟩ : none = y := by simpa [Bags.miss] using hy
                clear hy
                go_wp2_with fail
                refine (must_no hC Tc.out HR7.out (by omega) (by omega) (by decide) (by decide) rfl (by first | rfl | simp) rfl).mono ?_
                rintro e w8 ⟨rfl, hR, hG⟩
                have HR8 := Lib.hid hR
                have HG8 := Lib.hid (HG7.out.ss hG)
                have hS := HS7.out.far hG (by omega) (by omega)
                have c8 := hS.one.cell 0
                simp at c8
                have HS8 := Lib.hid hS
                have HXa := Lib.hid (HXa.out.fr hG (fun k h => by omega) (Nat.le_refl _))
                clear hR hG hS
                exact ⟨rfl, new_fr hf0 HG8.out (fun k hk => by omega), rfl, _, HR8.out⟩
              · rw [if_pos tc] at hy
                have Tc := Lib.hid (show isT (Bags.hd (ws.drop ja)) 5 Bags.cmps = true from tc)
                have Sc := Lib.hid (Bags.is_sort tc)
                have := lt_of_is tc (by decide)
                clear tc
                go_wp2_with fail
                refine (must_yes hC Tc.out HR7.out (by omega) (by omega) (by decide) (by decide) rfl (by first | rfl | simp) rfl).mono ?_
                rintro e w8 ⟨rfl, hR, hG⟩
                have HR8 := Lib.hid hR
                have HG8 := Lib.hid (HG7.out.ss hG)
                have hS := HS7.out.far hG (by omega) (by omega)
                have c8 := hS.one.cell 0
                simp at c8
                have HS8 := Lib.hid hS
                have HXa := Lib.hid (HXa.out.fr hG (fun k h => by omega) (Nat.le_refl _))
                clear hR hG hS
                try simp only [List.tail_drop] at hy
                cases taa : (Bags.hd (ws.drop (ja + 1))).is 1 [Bags.str "any", Bags.str "all"]
                · rw [if_neg (by simp [taa])] at hy
                  have Taa := Lib.hid (show isT (Bags.hd (ws.drop (ja + 1))) 1 [Bags.str "any", Bags.str "all"] = false from taa)
                  clear taa
                  go_wp2_with fail
                  refine (is_at hC HR8.out (by omega) Taa.out (by decide) (by decide) rfl (by first | rfl | simp) rfl).mono ?_
                  rintro e w9 ⟨rfl, hR, hG⟩
                  have HR9 := Lib.hid hR
                  have HG9 := Lib.hid (HG8.out.ss hG)
                  have hS := HS8.out.far hG (by omega) (by omega)
                  have c9 := hS.one.cell 0
                  simp at c9
                  have HS9 := Lib.hid hS
                  have HXa := Lib.hid (HXa.out.fr hG (fun k h => by omega) (Nat.le_refl _))
                  clear hR hG hS
                  rcases Bags.andThen_some hy with ⟨hp, rfl⟩ | ⟨eb, rest, hp, hy⟩
                  · have HP := Lib.hid hp
                    clear hp
                    go_wp2_with fail
                    refine (HE.out m (by omega) _ (ja + 1) _ trivial HR9.out (by omega) HP.out).mono ?_
                    rintro e w10 ⟨hG, rfl, hR⟩
                    have HR10 := Lib.hid hR
                    have HG10 := Lib.hid (HG9.out.ss hG)
                    have hS := HS9.out.far hG (by omega) (by omega)
                    have c10 := hS.one.cell 0
                    simp at c10
                    have HS10 := Lib.hid hS
                    have HXa := Lib.hid (HXa.out.fr hG (fun k h => by omega) (Nat.le_refl _))
                    clear hR hG hS
                    exact ⟨rfl, new_fr hf0 HG10.out (fun k hk => by omega), rfl, HR10.out⟩
                  · obtain ⟨jb, _, _, rfl⟩ := drop_of hp (by omega)
                    have HP := Lib.hid hp
                    clear hp
                    go_wp2_with fail
                    refine (HE.out m (by omega) _ (ja + 1) _ trivial HR9.out (by omega) HP.out).mono ?_
                    rintro e w10 ⟨hG, x10, jx, rfl, hx, hjx, hdr, hR⟩
                    obtain rfl : jb = jx := drop_inj (by assumption) hjx hdr
                    obtain ⟨tpb, vpb, rfl⟩ := rep.iface hx
                    have HXb := Lib.hid (rep.fr (Fr.refl (fun _ => False) _) (fun _ h => h.elim) (by have := HG9.out.size; simp only [World.size_alloc] at this; omega) hx)
                    have HR10 := Lib.hid hR
                    have HG10 := Lib.hid (HG9.out.ss hG)
                    have hS := HS9.out.far hG (by omega) (by omega)
                    have c10 := hS.one.cell 0
                    simp at c10
                    have HS10 := Lib.hid hS
                    have HXa := Lib.hid (HXa.out.fr hG (fun k h => by omega) (Nat.le_refl _))
                    clear hR hG hS
                    clear hx
                    try simp only [List.tail_drop] at hy
                    have HY := Lib.hid hy
                    obtain ⟨vv, hvv⟩ := HS10.out.two
                    have db := fun o => (hvv.alloc o).cell 0
                    have gb := fun o => (hvv.alloc o).free 0
                    simp at db
                    have hlv := hvv.lt
                    have HVV := Lib.hid hvv
                    clear hy hvv
                    go_wp2_with fail
                    obtain ⟨rfl⟩ : some ((.cmp (Bags.hd (ws.drop ja)).text ea eb), ws.drop jb) = y := by simpa [Bags.ok] using HY.out
                    have hput := (HVV.out.put 0 (.iface 284 (.pointer (some ⟨w10.heap.size, 0, none⟩)))).alloc (.cells #[.string (tx (Bags.hd (ws.drop ja)).text), .iface tpa vpa, .iface tpb vpb] 285)
                    have hfa := (Fr.refl (fun _ => False) (w10.setCell ⟨(W.heap.size + 1), 0, none⟩ (.iface 284 (.pointer (some ⟨w10.heap.size, 0, none⟩))))).alloc (.cells #[.string (tx (Bags.hd (ws.drop ja)).text), .iface tpa vpa, .iface tpb vpb] 285)
                    have hfs : Fr (· = (W.heap.size + 1)) w10 (w10.setCell ⟨(W.heap.size + 1), 0, none⟩ (.iface 284 (.pointer (some ⟨w10.heap.size, 0, none⟩)))) := (Fr.refl (· = (W.heap.size + 1)) _).set (p := ⟨(W.heap.size + 1), 0, none⟩) (.inr rfl) _
                    refine bodyPost_ret (results_cell1 rfl _ _ (W.heap.size + 1) 196 _ _ rfl hput rfl rfl) rfl ⟨new_fr hf0 ((HG10.out.t (hfs.mono (fun _ _ h => Or.inr h))).alloc (.cells #[.string (tx (Bags.hd (ws.drop ja)).text), .iface tpa vpa, .iface tpb vpb] 285)) (fun k hk => by omega), _, jb, rfl, ?_, by omega, rfl, (HR10.out.fr hfs (by omega) (by omega)).alloc (.cells #[.string (tx (Bags.hd (ws.drop ja)).text), .iface tpa vpa, .iface tpb vpb] 285)⟩
                    exact (show rep ((w10.setCell ⟨(W.heap.size + 1), 0, none⟩ (.iface 284 (.pointer (some ⟨w10.heap.size, 0, none⟩)))).alloc (.cells #[.string (tx (Bags.hd (ws.drop ja)).text), .iface tpa vpa, .iface tpb vpb] 285)) W.heap.size (.cmp (Bags.hd (ws.drop ja)).text ea eb) [(.iface 284 (.pointer (some ⟨w10.heap.size, 0, none⟩)))] from ⟨_, _, (HXa.out.fr hfs (fun k h => by omega) (by omega)).fr hfa (fun _ h => h.elim) (Nat.le_refl _), (HXb.out.fr hfs (fun k h => by omega) (by omega)).fr hfa (fun _ h => h.elim) (Nat.le_refl _), _, (show W.heap.size ≤ w10.heap.size by omega), rfl, Blk.made' (by simp) _ _⟩)
                · rw [if_pos taa] at hy
                  have Taa := Lib.hid (show isT (Bags.hd (ws.drop (ja + 1))) 1 [Bags.str "any", Bags.str "all"] = true from taa)
                  have Saa := Lib.hid (Bags.is_sort taa)
                  have := lt_of_is taa (by decide)
                  clear taa
                  go_wp2_with fail
                  refine (is_at hC HR8.out (by omega) Taa.out (by decide) (by decide) rfl (by first | rfl | simp) rfl).mono ?_
                  rintro e w9 ⟨rfl, hR, hG⟩
                  have HR9 := Lib.hid hR
                  have HG9 := Lib.hid (HG8.out.ss hG)
                  have hS := HS8.out.far hG (by omega) (by omega)
                  have c9 := hS.one.cell 0
                  simp at c9
                  have HS9 := Lib.hid hS
                  have HXa := Lib.hid (HXa.out.fr hG (fun k h => by omega) (Nat.le_refl _))
                  clear hR hG hS
                  go_wp2_with fail
                  refine (must_sort hC HR9.out (by omega) (by omega) Saa.out).mono ?_
                  rintro e w10 ⟨rfl, hR, hG⟩
                  have HR10 := Lib.hid hR
                  have HG10 := Lib.hid (HG9.out.ss hG)
                  have hS := HS9.out.far hG (by omega) (by omega)
                  have c10 := hS.one.cell 0
                  simp at c10
                  have HS10 := Lib.hid hS
                  have HXa := Lib.hid (HXa.out.fr hG (fun k h => by omega) (Nat.le_refl _))
                  clear hR hG hS
                  rcases Bags.andThen_some hy with ⟨hp, rfl⟩ | ⟨eq, rest, hp, hy⟩
                  · have HP := Lib.hid hp
                    clear hp
                    go_wp2_with fail
                    refine (HQ.out m (by omega) _ ((ja + 1) + 1) _ trivial HR10.out (by omega) HP.out).mono ?_
                    rintro e w11 ⟨hG, rfl, hR⟩
                    have HR11 := Lib.hid hR
                    have HG11 := Lib.hid (HG10.out.ss hG)
                    have hS := HS10.out.far hG (by omega) (by omega)
                    have c11 := hS.one.cell 0
                    simp at c11
                    have HS11 := Lib.hid hS
                    have HXa := Lib.hid (HXa.out.fr hG (fun k h => by omega) (Nat.le_refl _))
                    clear hR hG hS
                    exact ⟨rfl, new_fr hf0 HG11.out (fun k hk => by omega), rfl, HR11.out⟩
                  · obtain ⟨jq, _, _, rfl⟩ := drop_of hp (by omega)
                    have HP := Lib.hid hp
                    clear hp
                    go_wp2_with fail
                    refine (HQ.out m (by omega) _ ((ja + 1) + 1) _ trivial HR10.out (by omega) HP.out).mono ?_
                    rintro e w11 ⟨hG, x11, jx, rfl, hx, hjx, hdr, hR⟩
                    obtain rfl : jq = jx := drop_inj (by assumption) hjx hdr
                    obtain ⟨tpq, vpq, rfl⟩ := rep.iface hx
                    have HXq := Lib.hid (rep.fr (Fr.refl (fun _ => False) _) (fun _ h => h.elim) (by have := HG10.out.size; simp only [World.size_alloc] at this; omega) hx)
                    have HR11 := Lib.hid hR
                    have HG11 := Lib.hid (HG10.out.ss hG)
                    have hS := HS10.out.far hG (by omega) (by omega)
                    have c11 := hS.one.cell 0
                    simp at c11
                    have HS11 := Lib.hid hS
                    have HXa := Lib.hid (HXa.out.fr hG (fun k h => by omega) (Nat.le_refl _))
                    clear hR hG hS
                    clear hx
                    try simp only [List.tail_drop] at hy
                    have HY := Lib.hid hy
                    obtain ⟨vv, hvv⟩ := HS11.out.two
                    have db := fun o => (hvv.alloc o).cell 0
                    have gb := fun o => (hvv.alloc o).free 0
                    simp at db
                    have hlv := hvv.lt
                    have HVV := Lib.hid hvv
                    clear hy hvv
                    go_wp2_with fail
                    obtain ⟨rfl⟩ : some ((.quant (Bags.hd (ws.drop ja)).text (Bags.hd (ws.drop (ja + 1))).text ea eq), ws.drop jq) = y := by simpa [Bags.ok] using HY.out
                    have hput := (HVV.out.put 0 (.iface 281 (.pointer (some ⟨w11.heap.size, 0, none⟩)))).alloc (.cells #[.string (tx (Bags.hd (ws.drop ja)).text), .string (tx (Bags.hd (ws.drop (ja + 1))).text), .iface tpa vpa, .iface tpq vpq] 283)
                    have hfa := (Fr.refl (fun _ => False) (w11.setCell ⟨(W.heap.size + 1), 0, none⟩ (.iface 281 (.pointer (some ⟨w11.heap.size, 0, none⟩))))).alloc (.cells #[.string (tx (Bags.hd (ws.drop ja)).text), .string (tx (Bags.hd (ws.drop (ja + 1))).text), .iface tpa vpa, .iface tpq vpq] 283)
                    have hfs : Fr (· = (W.heap.size + 1)) w11 (w11.setCell ⟨(W.heap.size + 1), 0, none⟩ (.iface 281 (.pointer (some ⟨w11.heap.size, 0, none⟩)))) := (Fr.refl (· = (W.heap.size + 1)) _).set (p := ⟨(W.heap.size + 1), 0, none⟩) (.inr rfl) _
                    refine bodyPost_ret (results_cell1 rfl _ _ (W.heap.size + 1) 196 _ _ rfl hput rfl rfl) rfl ⟨new_fr hf0 ((HG11.out.t (hfs.mono (fun _ _ h => Or.inr h))).alloc (.cells #[.string (tx (Bags.hd (ws.drop ja)).text), .string (tx (Bags.hd (ws.drop (ja + 1))).text), .iface tpa vpa, .iface tpq vpq] 283)) (fun k hk => by omega), _, jq, rfl, ?_, by omega, rfl, (HR11.out.fr hfs (by omega) (by omega)).alloc (.cells #[.string (tx (Bags.hd (ws.drop ja)).text), .string (tx (Bags.hd (ws.drop (ja + 1))).text), .iface tpa vpa, .iface tpq vpq] 283)⟩
                    exact (show rep ((w11.setCell ⟨(W.heap.size + 1), 0, none⟩ (.iface 281 (.pointer (some ⟨w11.heap.size, 0, none⟩)))).alloc (.cells #[.string (tx (Bags.hd (ws.drop ja)).text), .string (tx (Bags.hd (ws.drop (ja + 1))).text), .iface tpa vpa, .iface tpq vpq] 283)) W.heap.size (.quant (Bags.hd (ws.drop ja)).text (Bags.hd (ws.drop (ja + 1))).text ea eq) [(.iface 281 (.pointer (some ⟨w11.heap.size, 0, none⟩)))] from ⟨_, _, (HXa.out.fr hfs (fun k h => by omega) (by omega)).fr hfa (fun _ h => h.elim) (Nat.le_refl _), (HXq.out.fr hfs (fun k h => by omega) (by omega)).fr hfa (fun _ h => h.elim) (Nat.le_refl _), _, (show W.heap.size ≤ w11.heap.size by omega), rfl, Blk.made' (by simp) _ _⟩)
            · rw [if_pos tni] at hy
              have Tni := Lib.hid (show isT (Bags.hd (ws.drop ja)) 1 [Bags.str "not", Bags.str "in"] = true from tni)
              have Sni := Lib.hid (Bags.is_sort tni)
              have := lt_of_is tni (by decide)
              clear tni
              go_wp2_with fail
              refine (is_at hC HR6.out (by omega) Tni.out (by decide) (by decide) rfl (by first | rfl | simp) rfl).mono ?_
              rintro e w7 ⟨rfl, hR, hG⟩
              have HR7 := Lib.hid hR
              have HG7 := Lib.hid (HG6.out.ss hG)
              have hS := HS6.out.far hG (by omega) (by omega)
              have c7 := hS.one.cell 0
              simp at c7
              have HS7 := Lib.hid hS
              have HXa := Lib.hid (HXa.out.fr hG (fun k h => by omega) (Nat.le_refl _))
              clear hR hG hS
              generalize hdno : (Bags.hd (ws.drop ja)).is 1 [Bags.str "not"] = no at hy
              obtain ⟨q, hqq, hlq, hpq⟩ : ∃ q, (if no = true then ws.drop (ja + 1) else ws.drop ja) = ws.drop q ∧ q ≤ ws.length ∧ (if no = true then ja + 1 else ja) = q := by
                cases no
                · exact ⟨ja, by simp, by omega, by simp⟩
                · exact ⟨ja + 1, by simp, by have := lt_of_is hdno (by decide); omega, by simp⟩
              rw [hqq] at hy
              try simp only [List.tail_drop] at hy
              have Hno := Lib.hid (show isT (Bags.hd (ws.drop ja)) 1 [Bags.str "not"] = no from hdno)
              clear hdno hqq
              go_wp2_with fail
              refine (takes_at hC HR7.out (by omega) (by omega) Hno.out (by decide) (by decide) rfl (by first | rfl | simp) rfl).mono ?_
              rintro e w8 ⟨rfl, hR, hG⟩
              rw [hpq] at hR
              have HR8 := Lib.hid hR
              have HG8 := Lib.hid (HG7.out.ss hG)
              have hS := HS7.out.far hG (by omega) (by omega)
              have c8 := hS.one.cell 0
              simp at c8
              have HS8 := Lib.hid hS
              have HXa := Lib.hid (HXa.out.fr hG (fun k h => by omega) (Nat.le_refl _))
              clear hR hG hS
              cases tin : (Bags.hd (ws.drop q)).is 1 [Bags.str "in"]
              · rw [if_neg (by simp [tin])] at hy
                have Tin := Lib.hid (show isT (Bags.hd (ws.drop q)) 1 [Bags.str "in"] = false from tin)
                clear tin
                obtain ⟨rfl⟩ : none = y := by simpa [Bags.miss] using hy
                clear hy
                go_wp2_with fail
                refine (must_no hC Tin.out HR8.out (by omega) (by omega) (by decide) (by decide) rfl (by first | rfl | simp) rfl).mono ?_
                rintro e w9 ⟨rfl, hR, hG⟩
                have HR9 := Lib.hid hR
                have HG9 := Lib.hid (HG8.out.ss hG)
                have hS := HS8.out.far hG (by omega) (by omega)
                have c9 := hS.one.cell 0
                simp at c9
                have HS9 := Lib.hid hS
                have HXa := Lib.hid (HXa.out.fr hG (fun k h => by omega) (Nat.le_refl _))
                clear hR hG hS
                exact ⟨rfl, new_fr hf0 HG9.out (fun k hk => by omega), rfl, _, HR9.out⟩
              · rw [if_pos tin] at hy
                have Tin := Lib.hid (show isT (Bags.hd (ws.drop q)) 1 [Bags.str "in"] = true from tin)
                have Sin := Lib.hid (Bags.is_sort tin)
                have := lt_of_is tin (by decide)
                clear tin
                go_wp2_with fail
                refine (must_yes hC Tin.out HR8.out (by omega) (by omega) (by decide) (by decide) rfl (by first | rfl | simp) rfl).mono ?_
                rintro e w9 ⟨rfl, hR, hG⟩
                have HR9 := Lib.hid hR
                have HG9 := Lib.hid (HG8.out.ss hG)
                have hS := HS8.out.far hG (by omega) (by omega)
                have c9 := hS.one.cell 0
                simp at c9
                have HS9 := Lib.hid hS
                have HXa := Lib.hid (HXa.out.fr hG (fun k h => by omega) (Nat.le_refl _))
                clear hR hG hS
                rcases Bags.andThen_some hy with ⟨hp, rfl⟩ | ⟨eq, rest, hp, hy⟩
                · have HP := Lib.hid hp
                  clear hp
                  go_wp2_with fail
                  refine (HQ.out m (by omega) _ (q + 1) _ trivial HR9.out (by omega) HP.out).mono ?_
                  rintro e w10 ⟨hG, rfl, hR⟩
                  have HR10 := Lib.hid hR
                  have HG10 := Lib.hid (HG9.out.ss hG)
                  have hS := HS9.out.far hG (by omega) (by omega)
                  have c10 := hS.one.cell 0
                  simp at c10
                  have HS10 := Lib.hid hS
                  have HXa := Lib.hid (HXa.out.fr hG (fun k h => by omega) (Nat.le_refl _))
                  clear hR hG hS
                  exact ⟨rfl, new_fr hf0 HG10.out (fun k hk => by omega), rfl, HR10.out⟩
                · obtain ⟨jq, _, _, rfl⟩ := drop_of hp (by omega)
                  have HP := Lib.hid hp
                  clear hp
                  go_wp2_with fail
                  refine (HQ.out m (by omega) _ (q + 1) _ trivial HR9.out (by omega) HP.out).mono ?_
                  rintro e w10 ⟨hG, x10, jx, rfl, hx, hjx, hdr, hR⟩
                  obtain rfl : jq = jx := drop_inj (by assumption) hjx hdr
                  obtain ⟨tpq, vpq, rfl⟩ := rep.iface hx
                  have HXq := Lib.hid (rep.fr (Fr.refl (fun _ => False) _) (fun _ h => h.elim) (by have := HG9.out.size; simp only [World.size_alloc] at this; omega) hx)
                  have HR10 := Lib.hid hR
                  have HG10 := Lib.hid (HG9.out.ss hG)
                  have hS := HS9.out.far hG (by omega) (by omega)
                  have c10 := hS.one.cell 0
                  simp at c10
                  have HS10 := Lib.hid hS
                  have HXa := Lib.hid (HXa.out.fr hG (fun k h => by omega) (Nat.le_refl _))
                  clear hR hG hS
                  clear hx
                  try simp only [List.tail_drop] at hy
                  have HY := Lib.hid hy
                  obtain ⟨vv, hvv⟩ := HS10.out.two
                  have db := fun o => (hvv.alloc o).cell 0
                  have gb := fun o => (hvv.alloc o).free 0
                  simp at db
                  have hlv := hvv.lt
                  have HVV := Lib.hid hvv
                  clear hy hvv
                  go_wp2_with fail
                  obtain ⟨rfl⟩ : some ((.isin ea no eq), ws.drop jq) = y := by simpa [Bags.ok] using HY.out
                  have hput := (HVV.out.put 0 (.iface 278 (.pointer (some ⟨w10.heap.size, 0, none⟩)))).alloc (.cells #[.iface tpa vpa, .bool no, .iface tpq vpq] 280)
                  have hfa := (Fr.refl (fun _ => False) (w10.setCell ⟨(W.heap.size + 1), 0, none⟩ (.iface 278 (.pointer (some ⟨w10.heap.size, 0, none⟩))))).alloc (.cells #[.iface tpa vpa, .bool no, .iface tpq vpq] 280)
                  have hfs : Fr (· = (W.heap.size + 1)) w10 (w10.setCell ⟨(W.heap.size + 1), 0, none⟩ (.iface 278 (.pointer (some ⟨w10.heap.size, 0, none⟩)))) := (Fr.refl (· = (W.heap.size + 1)) _).set (p := ⟨(W.heap.size + 1), 0, none⟩) (.inr rfl) _
                  refine bodyPost_ret (results_cell1 rfl _ _ (W.heap.size + 1) 196 _ _ rfl hput rfl rfl) rfl ⟨new_fr hf0 ((HG10.out.t (hfs.mono (fun _ _ h => Or.inr h))).alloc (.cells #[.iface tpa vpa, .bool no, .iface tpq vpq] 280)) (fun k hk => by omega), _, jq, rfl, ?_, by omega, rfl, (HR10.out.fr hfs (by omega) (by omega)).alloc (.cells #[.iface tpa vpa, .bool no, .iface tpq vpq] 280)⟩
                  exact (show rep ((w10.setCell ⟨(W.heap.size + 1), 0, none⟩ (.iface 278 (.pointer (some ⟨w10.heap.size, 0, none⟩)))).alloc (.cells #[.iface tpa vpa, .bool no, .iface tpq vpq] 280)) W.heap.size (.isin ea no eq) [(.iface 278 (.pointer (some ⟨w10.heap.size, 0, none⟩)))] from ⟨_, _, (HXa.out.fr hfs (fun k h => by omega) (by omega)).fr hfa (fun _ h => h.elim) (Nat.le_refl _), (HXq.out.fr hfs (fun k h => by omega) (by omega)).fr hfa (fun _ h => h.elim) (Nat.le_refl _), _, (show W.heap.size ≤ w10.heap.size by omega), rfl, Blk.made' (by simp) _ _⟩)
          · rw [if_pos ti] at hy
            have Ti := Lib.hid (show isT (Bags.hd (ws.drop ja)) 1 [Bags.str "is"] = true from ti)
            have Si := Lib.hid (Bags.is_sort ti)
            have := lt_of_is ti (by decide)
            clear ti
            go_wp2_with fail
            refine (takes_yes hC HR5.out (by omega) (by omega) Ti.out (by decide) (by decide) rfl (by first | rfl | simp) rfl).mono ?_
            rintro e w6 ⟨rfl, hR, hG⟩
            have HR6 := Lib.hid hR
            have HG6 := Lib.hid (HG5.out.ss hG)
            have hS := HS5.out.far hG (by omega) (by omega)
            have c6 := hS.one.cell 0
            simp at c6
            have HS6 := Lib.hid hS
            have HXa := Lib.hid (HXa.out.fr hG (fun k h => by omega) (Nat.le_refl _))
            clear hR hG hS
            generalize hdno : (Bags.hd (ws.drop (ja + 1))).is 1 [Bags.str "not"] = no at hy
            obtain ⟨q, hqq, hlq, hpq⟩ : ∃ q, (if no = true then ws.drop ((ja + 1) + 1) else ws.drop (ja + 1)) = ws.drop q ∧ q ≤ ws.length ∧ (if no = true then (ja + 1) + 1 else (ja + 1)) = q := by
              cases no
              · exact ⟨(ja + 1), by simp, by omega, by simp⟩
              · exact ⟨(ja + 1) + 1, by simp, by have := lt_of_is hdno (by decide); omega, by simp⟩
            rw [hqq] at hy
            try simp only [List.tail_drop] at hy
            have Hno := Lib.hid (show isT (Bags.hd (ws.drop (ja + 1))) 1 [Bags.str "not"] = no from hdno)
            clear hdno hqq
            go_wp2_with fail
            refine (takes_at hC HR6.out (by omega) (by omega) Hno.out (by decide) (by decide) rfl (by first | rfl | simp) rfl).mono ?_
            rintro e w7 ⟨rfl, hR, hG⟩
            rw [hpq] at hR
            have HR7 := Lib.hid hR
            have HG7 := Lib.hid (HG6.out.ss hG)
            have hS := HS6.out.far hG (by omega) (by omega)
            have c7 := hS.one.cell 0
            simp at c7
            have HS7 := Lib.hid hS
            have HXa := Lib.hid (HXa.out.fr hG (fun k h => by omega) (Nat.le_refl _))
            clear hR hG hS
            cases tn : (Bags.hd (ws.drop q)).is 1 [Bags.str "null"]
            · rw [if_neg (by simp [tn])] at hy
              have Tn := Lib.hid (show isT (Bags.hd (ws.drop q)) 1 [Bags.str "null"] = false from tn)
              clear tn
              obtain ⟨rfl⟩ : none = y := by simpa [Bags.miss] using hy
              clear hy
              go_wp2_with fail
              refine (must_no hC Tn.out HR7.out (by omega) (by omega) (by decide) (by decide) rfl (by first | rfl | simp) rfl).mono ?_
              rintro e w8 ⟨rfl, hR, hG⟩
              have HR8 := Lib.hid hR
              have HG8 := Lib.hid (HG7.out.ss hG)
              have hS := HS7.out.far hG (by omega) (by omega)
              have c8 := hS.one.cell 0
              simp at c8
              have HS8 := Lib.hid hS
              have HXa := Lib.hid (HXa.out.fr hG (fun k h => by omega) (Nat.le_refl _))
              clear hR hG hS
              exact ⟨rfl, new_fr hf0 HG8.out (fun k hk => by omega), rfl, _, HR8.out⟩
            · rw [if_pos tn] at hy
              have Tn := Lib.hid (show isT (Bags.hd (ws.drop q)) 1 [Bags.str "null"] = true from tn)
              have Sn := Lib.hid (Bags.is_sort tn)
              have := lt_of_is tn (by decide)
              clear tn
              go_wp2_with fail
              refine (must_yes hC Tn.out HR7.out (by omega) (by omega) (by decide) (by decide) rfl (by first | rfl | simp) rfl).mono ?_
              rintro e w8 ⟨rfl, hR, hG⟩
              have HR8 := Lib.hid hR
              have HG8 := Lib.hid (HG7.out.ss hG)
              have hS := HS7.out.far hG (by omega) (by omega)
              have c8 := hS.one.cell 0
              simp at c8
              have HS8 := Lib.hid hS
              have HXa := Lib.hid (HXa.out.fr hG (fun k h => by omega) (Nat.le_refl _))
              clear hR hG hS
              have HY := Lib.hid hy
              obtain ⟨vv, hvv⟩ := HS8.out.two
              have db := fun o => (hvv.alloc o).cell 0
              have gb := fun o => (hvv.alloc o).free 0
              simp at db
              have hlv := hvv.lt
              have HVV := Lib.hid hvv
              clear hy hvv
              go_wp2_with fail
              obtain ⟨rfl⟩ : some ((.isnull ea no), ws.drop (q + 1)) = y := by simpa [Bags.ok] using HY.out
              have hput := (HVV.out.put 0 (.iface 273 (.pointer (some ⟨w8.heap.size, 0, none⟩)))).alloc (.cells #[.iface tpa vpa, .bool no] 277)
              have hfa := (Fr.refl (fun _ => False) (w8.setCell ⟨(W.heap.size + 1), 0, none⟩ (.iface 273 (.pointer (some ⟨w8.heap.size, 0, none⟩))))).alloc (.cells #[.iface tpa vpa, .bool no] 277)
              have hfs : Fr (· = (W.heap.size + 1)) w8 (w8.setCell ⟨(W.heap.size + 1), 0, none⟩ (.iface 273 (.pointer (some ⟨w8.heap.size, 0, none⟩)))) := (Fr.refl (· = (W.heap.size + 1)) _).set (p := ⟨(W.heap.size + 1), 0, none⟩) (.inr rfl) _
              refine bodyPost_ret (results_cell1 rfl _ _ (W.heap.size + 1) 196 _ _ rfl hput rfl rfl) rfl ⟨new_fr hf0 ((HG8.out.t (hfs.mono (fun _ _ h => Or.inr h))).alloc (.cells #[.iface tpa vpa, .bool no] 277)) (fun k hk => by omega), _, (q + 1), rfl, ?_, by omega, rfl, (HR8.out.fr hfs (by omega) (by omega)).alloc (.cells #[.iface tpa vpa, .bool no] 277)⟩
              exact (show rep ((w8.setCell ⟨(W.heap.size + 1), 0, none⟩ (.iface 273 (.pointer (some ⟨w8.heap.size, 0, none⟩)))).alloc (.cells #[.iface tpa vpa, .bool no] 277)) W.heap.size (.isnull ea no) [(.iface 273 (.pointer (some ⟨w8.heap.size, 0, none⟩)))] from ⟨_, (HXa.out.fr hfs (fun k h => by omega) (by omega)).fr hfa (fun _ h => h.elim) (Nat.le_refl _), _, (show W.heap.size ≤ w8.heap.size by omega), rfl, Blk.made' (by simp) _ _⟩)
      · rcases z with _ | ⟨t, rest⟩
        · simp at hz2
        obtain ⟨j, q1, q2⟩ : ∃ j, j ≤ ws.length ∧ rest = ws.drop j := by
          obtain ⟨_, hyes⟩ := bclo hC hz HCd.out (n := n) (by omega) HS3.out.one HSo.out (by omega) (by omega) (by omega) HR3.out hi hz1
          obtain ⟨j, h1, h2, _⟩ := hyes t rest rfl
          exact ⟨j, h1, h2⟩
        subst q2
        have HB := Lib.hid (fun W' (hb : Below w3.heap.size w3 W') => (bclo hC hz HCd.out (n := n) (by omega) (HS3.out.one.below hb (by have := HS3.out.one.lt; omega)) (HSo.out.below hb hlo) (by omega) (by omega) (by omega) (HR3.out.below hb) hi hz1).2 t _ rfl)
        clear hz1 hy
        go_wp2_with fail
        refine (tries_yes (j := j) (V := fun x w' => x = .tuple #[] ∧ ∃ v, Blk w' (W.heap.size + 1) 196 #[v] ∧ rep w' (w3.heap.size + 3) t [v]) HR3.out (S := SS r (W.heap.size + 1)) (fun k hk => by simp only [SS] at hk; omega) (fun _ _ => by kernel_rfl) (fun W' hb hs => by
          obtain ⟨j', h1, h2, h3⟩ := HB.out W' hb
          obtain rfl : j = j' := drop_inj q1 h1 h2
          rw [hs] at h3
          simpa using h3)).mono ?_
        rintro e w4 ⟨rfl, hR, hG, x, w1, ⟨rfl, v, hbv, hv⟩, hf1, hs1⟩
        obtain ⟨tpv, vpv, rfl⟩ := rep.iface hv
        have hbv := hbv.fr hf1 (by omega)
        have hv := hv.fr hf1 (fun k h => by omega) (Nat.le_refl _)
        have dd := hbv.cell 0
        have gd := hbv.free 0
        simp at dd
        have HO := Lib.hid (And.intro hR (And.intro hG (And.intro hbv hv)))
        clear hR hG hbv hv hf1
        go_wp2_with fail
        obtain ⟨hR, hG, hbv, hv⟩ := HO.out
        have hput := hbv.put 0 (.iface tpv vpv)
        have hfs : Fr (· = (W.heap.size + 1)) w4 (w4.setCell ⟨(W.heap.size + 1), 0, none⟩ (.iface tpv vpv)) := (Fr.refl (· = (W.heap.size + 1)) _).set (p := ⟨(W.heap.size + 1), 0, none⟩) (.inr rfl) _
        refine bodyPost_ret (results_cell1 rfl _ _ (W.heap.size + 1) 196 _ _ rfl hput rfl rfl) rfl ⟨new_fr hf0 ((HG3.out.t hG).t (hfs.mono (fun _ _ h => .inr h))) (fun k hk => by omega), _, j, rfl, hv.fr hfs (fun k h => by omega) (by omega), q1, rfl, hR.fr hfs (by omega) (by omega)⟩

  · rw [if_pos te] at hy
    have Te := Lib.hid (show isT (Bags.hd (ws.drop i)) 1 [Bags.str "exists"] = true from te)
    have Se := Lib.hid (Bags.is_sort te)
    have := lt_of_is te (by decide)
    clear te
    go_wp2_with fail
    refine (takes_yes hC HR1.out (by omega) (by omega) Te.out (by decide) (by decide) rfl (by first | rfl | simp) rfl).mono ?_
    rintro e w2 ⟨rfl, hR, hG⟩
    have HR2 := Lib.hid hR
    have HG2 := Lib.hid (HG1.out.ss hG)
    have hS := HS1.out.far hG (by omega) (by omega)
    have c2 := hS.one.cell 0
    simp at c2
    have HS2 := Lib.hid hS
    clear hR hG hS
    rcases Bags.andThen_some hy with ⟨hp, rfl⟩ | ⟨eq, rest, hp, hy⟩
    · have HP := Lib.hid hp
      clear hp
      go_wp2_with fail
      refine (HQ.out n (by omega) _ (i + 1) _ trivial HR2.out (by omega) HP.out).mono ?_
      rintro e w3 ⟨hG, rfl, hR⟩
      have HR3 := Lib.hid hR
      have HG3 := Lib.hid (HG2.out.ss hG)
      have hS := HS2.out.far hG (by omega) (by omega)
      have c3 := hS.one.cell 0
      simp at c3
      have HS3 := Lib.hid hS
      clear hR hG hS
      exact ⟨rfl, new_fr hf0 HG3.out (fun k hk => by omega), rfl, HR3.out⟩
    · obtain ⟨jq, _, _, rfl⟩ := drop_of hp (by omega)
      have HP := Lib.hid hp
      clear hp
      go_wp2_with fail
      refine (HQ.out n (by omega) _ (i + 1) _ trivial HR2.out (by omega) HP.out).mono ?_
      rintro e w3 ⟨hG, x3, jx, rfl, hx, hjx, hdr, hR⟩
      obtain rfl : jq = jx := drop_inj (by assumption) hjx hdr
      obtain ⟨tpq, vpq, rfl⟩ := rep.iface hx
      have HXq := Lib.hid (rep.fr (Fr.refl (fun _ => False) _) (fun _ h => h.elim) (by have := HG2.out.size; simp only [World.size_alloc] at this; omega) hx)
      have HR3 := Lib.hid hR
      have HG3 := Lib.hid (HG2.out.ss hG)
      have hS := HS2.out.far hG (by omega) (by omega)
      have c3 := hS.one.cell 0
      simp at c3
      have HS3 := Lib.hid hS
      clear hR hG hS
      clear hx
      try simp only [List.tail_drop] at hy
      have HY := Lib.hid hy
      obtain ⟨vv, hvv⟩ := HS3.out.two
      have db := fun o => (hvv.alloc o).cell 0
      have gb := fun o => (hvv.alloc o).free 0
      simp at db
      have hlv := hvv.lt
      have HVV := Lib.hid hvv
      clear hy hvv
      go_wp2_with fail
      obtain ⟨rfl⟩ : some ((.exist eq), ws.drop jq) = y := by simpa [Bags.ok] using HY.out
      have hput := (HVV.out.put 0 (.iface 270 (.pointer (some ⟨w3.heap.size, 0, none⟩)))).alloc (.cells #[.iface tpq vpq] 272)
      have hfa := (Fr.refl (fun _ => False) (w3.setCell ⟨(W.heap.size + 1), 0, none⟩ (.iface 270 (.pointer (some ⟨w3.heap.size, 0, none⟩))))).alloc (.cells #[.iface tpq vpq] 272)
      have hfs : Fr (· = (W.heap.size + 1)) w3 (w3.setCell ⟨(W.heap.size + 1), 0, none⟩ (.iface 270 (.pointer (some ⟨w3.heap.size, 0, none⟩)))) := (Fr.refl (· = (W.heap.size + 1)) _).set (p := ⟨(W.heap.size + 1), 0, none⟩) (.inr rfl) _
      refine bodyPost_ret (results_cell1 rfl _ _ (W.heap.size + 1) 196 _ _ rfl hput rfl rfl) rfl ⟨new_fr hf0 ((HG3.out.t (hfs.mono (fun _ _ h => Or.inr h))).alloc (.cells #[.iface tpq vpq] 272)) (fun k hk => by omega), _, jq, rfl, ?_, by omega, rfl, (HR3.out.fr hfs (by omega) (by omega)).alloc (.cells #[.iface tpq vpq] 272)⟩
      exact (show rep ((w3.setCell ⟨(W.heap.size + 1), 0, none⟩ (.iface 270 (.pointer (some ⟨w3.heap.size, 0, none⟩)))).alloc (.cells #[.iface tpq vpq] 272)) W.heap.size (.exist eq) [(.iface 270 (.pointer (some ⟨w3.heap.size, 0, none⟩)))] from ⟨_, (HXq.out.fr hfs (fun k h => by omega) (by omega)).fr hfa (fun _ h => h.elim) (Nat.le_refl _), _, (show W.heap.size ≤ w3.heap.size by omega), rfl, Blk.made' (by simp) _ _⟩)
end Go.Proofs.YtoephflcjllaaaaGreatDoor
