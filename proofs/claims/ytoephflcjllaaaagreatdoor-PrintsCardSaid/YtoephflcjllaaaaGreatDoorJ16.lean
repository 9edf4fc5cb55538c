/- Walks: factor. -/
import Derived.Test.YtoephflcjllaaaaGreatDoorJ15
namespace Go.Proofs.YtoephflcjllaaaaGreatDoor
open Go.RowKit
set_option linter.unusedVariables false
set_option linter.unusedSimpArgs false

theorem tx_inj {a b : Bags.Str} (h : tx a = tx b) : a = b := by
  have := congrArg bs h
  simpa using this
theorem count_tx : (⟨#[99, 111, 117, 110, 116]⟩ : ByteArray) = tx (Bags.str "count") := by decide
/-- The word of which a factor asks, in a block of its own. -/
def wordBlk (w : World) (p : Nat) (x : Bags.W) : Prop := Blk w p 149 #[.int .i64 x.sort, .string (tx x.text), .int .i64 x.num]

set_option maxRecDepth 100000 in
set_option maxHeartbeats 2000000 in
theorem fa_star (hC : ContSaid) {r A : Nat} {ws : List Bags.W} (hz : ws.length ≤ 1000) {W : World} {i pw p1 p2 : Nat} {t1 t2 : TypeId} {x : Bags.W} (hw : wordBlk W pw x) (b1 : Blk W p1 t1 #[.pointer (some ⟨r, 0, none⟩)])
    (b2 : Blk W p2 t2 #[.nilIface]) (hpr : p2 ≠ r) (hr : Rdr W r A ws i) (hi : i ≤ ws.length) (hx : x.text = Bags.str "count") (hs : (Bags.hd (ws.drop i)).is 5 [Bags.str "*"] = true) :
    Calls Tryz.prog 146 #[.pointer (some ⟨pw, 0, none⟩), .pointer (some ⟨p1, 0, none⟩), .pointer (some ⟨p2, 0, none⟩)] W (Does (fun k => k = r ∨ k = p2) r A ws (some (i + 1)) (fun x w' => x = .tuple #[] ∧ Blk w' p2 t2 #[.nilIface]) W) := by
  have H1 := Lib.hid (show isT (Bags.hd (ws.drop i)) 5 [Bags.str "*"] = true from hs)
  have HR := Lib.hid hr
  have HB := Lib.hid b2
  have c0 := b1.cell 0
  have d1 := hw.cell 1
  have hnot : ∀ (x : Bool) (w : World), (Op.unary .not (.bool x)).run Tryz.prog w = .ok (.bool (!x)) w := fun _ _ => rfl
  simp at c0 d1
  have tt : (tx x.text).toList = [99, 111, 117, 110, 116] := by rw [hx, bs_toList]; decide
  clear hr b1 b2 hw hx
  go_enter Tryz.func146, Tryz.ntmps146
  go_wp2_with fail
  refine (takes_yes hC HR.out (by omega) (by omega) H1.out (by decide) (by decide) rfl (by first | rfl | simp) rfl).mono ?_
  rintro e w2 ⟨rfl, hR, hG⟩
  have HR2 := Lib.hid hR
  have HG2 := Lib.hid hG
  clear hR hG
  go_wp2_with fail
  exact bodyPost_end (results_none rfl _ _ _) rfl ⟨HG2.out.mono (fun _ _ h => .inl h), ⟨_, rfl, rfl, HB.out.fr HG2.out hpr⟩, HR2.out⟩

set_option maxRecDepth 100000 in
set_option maxHeartbeats 2000000 in
theorem fan_no (hC : ContSaid) {r A : Nat} {ws : List Bags.W} (hz : ws.length ≤ 1000) {N : Nat} (hE : Meth 126 V1 .expr N r A ws) {n : Nat} (hn : n ≤ N) {W : World} {i pw p1 p2 : Nat} {t1 t2 : TypeId} {x : Bags.W} {x0 : Value} (hw : wordBlk W pw x) (b1 : Blk W p1 t1 #[.pointer (some ⟨r, 0, none⟩)])
    (b2 : Blk W p2 t2 #[x0]) (hpr : p2 ≠ r) (hpr1 : p1 ≠ r) (hpA : p2 ≠ A) (hr : Rdr W r A ws i) (hi : i ≤ ws.length) (hx : x.text ≠ Bags.str "count") (hy : Bags.par n .expr (ws.drop i) = some none) :
    Calls Tryz.prog 146 #[.pointer (some ⟨pw, 0, none⟩), .pointer (some ⟨p1, 0, none⟩), .pointer (some ⟨p2, 0, none⟩)] W (fun e w' => Does (fun k => k = r ∨ k = p2) r A ws none (fun _ _ => True) W e w' ∧ ∃ v, Blk w' p2 t2 #[v]) := by
  have HR1 := Lib.hid hr
  have HB := Lib.hid b2
  have HB1 := Lib.hid b1
  have HE := Lib.hid hE
  have HY := Lib.hid hy
  have hl1 := b1.lt
  have hl2 := b2.lt
  have hlr := hr.lt
  have c0 := b1.cell 0
  have d1 := hw.cell 1
  have hnot : ∀ (x : Bool) (w : World), (Op.unary .not (.bool x)).run Tryz.prog w = .ok (.bool (!x)) w := fun _ _ => rfl
  simp at c0 d1
  have tt : ¬ (tx x.text).toList = [99, 111, 117, 110, 116] := by rw [bs_toList, bs_tx]; intro h; exact hx (h.trans (by decide))
  clear hr b1 b2 hw hx hE hy
  go_enter Tryz.func146, Tryz.ntmps146
  have HR := HR1
  have HG := Lib.hid (Fr.refl (· = r) W)
  have HB2 := HB
  go_wp2_with fail
  refine (HE.out n hn _ i _ trivial HR.out hi HY.out).mono ?_
  rintro e w5 ⟨hG, rfl, hR⟩
  exact ⟨rfl, ⟨(HG.out.t hG).mono (fun _ _ h => .inl h), rfl, hR⟩, _, HB2.out.fr hG hpr⟩

set_option maxRecDepth 100000 in
set_option maxHeartbeats 2000000 in
theorem fan_yes (hC : ContSaid) {r A : Nat} {ws : List Bags.W} (hz : ws.length ≤ 1000) {N : Nat} (hE : Meth 126 V1 .expr N r A ws) {n : Nat} (hn : n ≤ N) {W : World} {i pw p1 p2 : Nat} {t1 t2 : TypeId} {x : Bags.W} {x0 : Value} (hw : wordBlk W pw x) (b1 : Blk W p1 t1 #[.pointer (some ⟨r, 0, none⟩)])
    (b2 : Blk W p2 t2 #[x0]) (hpr : p2 ≠ r) (hpr1 : p1 ≠ r) (hpA : p2 ≠ A) (hr : Rdr W r A ws i) (hi : i ≤ ws.length) (hx : x.text ≠ Bags.str "count") {j : Nat} (hj : j ≤ ws.length) {t : Bags.T} (hy : Bags.par n .expr (ws.drop i) = some (some (t, ws.drop j))) :
    Calls Tryz.prog 146 #[.pointer (some ⟨pw, 0, none⟩), .pointer (some ⟨p1, 0, none⟩), .pointer (some ⟨p2, 0, none⟩)] W (Does (fun k => k = r ∨ k = p2) r A ws (some j) (fun x w' => x = .tuple #[] ∧ ∃ v, Blk w' p2 t2 #[v] ∧ rep w' W.heap.size t [v]) W) := by
  have HR1 := Lib.hid hr
  have HB := Lib.hid b2
  have HB1 := Lib.hid b1
  have HE := Lib.hid hE
  have HY := Lib.hid hy
  have hl1 := b1.lt
  have hl2 := b2.lt
  have hlr := hr.lt
  have c0 := b1.cell 0
  have d1 := hw.cell 1
  have hnot : ∀ (x : Bool) (w : World), (Op.unary .not (.bool x)).run Tryz.prog w = .ok (.bool (!x)) w := fun _ _ => rfl
  simp at c0 d1
  have tt : ¬ (tx x.text).toList = [99, 111, 117, 110, 116] := by rw [bs_toList, bs_tx]; intro h; exact hx (h.trans (by decide))
  clear hr b1 b2 hw hx hE hy
  go_enter Tryz.func146, Tryz.ntmps146
  have HR := HR1
  have HG := Lib.hid (Fr.refl (· = r) W)
  have HB2 := HB
  go_wp2_with fail
  refine (HE.out n hn _ i _ trivial HR.out hi HY.out).mono ?_
  rintro e w5 ⟨hG, x5, jx, rfl, hx, hjx, hdr, hR⟩
  obtain rfl : j = jx := drop_inj hj hjx hdr
  obtain ⟨tp, vp, rfl⟩ := rep.iface hx
  have hb2 := HB2.out.fr hG hpr
  have HB3 := Lib.hid hb2
  have d0 := hb2.cell 0
  have g0 := hb2.free 0
  simp at d0
  have HX := Lib.hid (show rep w5 W.heap.size t [.iface tp vp] from rep.fr (Fr.refl (fun _ => False) _) (fun _ h => h.elim) HG.out.size hx)
  have HO := Lib.hid (And.intro hG hR)
  clear hb2 hx hG hR
  go_wp2_with fail
  obtain ⟨hG, hR⟩ := HO.out
  have hput := HB3.out.put 0 (.iface tp vp)
  have hf : Fr (· = p2) w5 (w5.setCell ⟨p2, 0, none⟩ (.iface tp vp)) := (Fr.refl (· = p2) w5).set (.inr rfl) _
  refine bodyPost_end (results_none rfl _ _ _) rfl ⟨((HG.out.t hG).mono (fun _ _ h => .inl h)).t (hf.mono (fun _ _ h => .inr h)), ⟨_, rfl, rfl, _, by simpa using hput, HX.out.fr hf (fun k h => h ▸ hl2) (Nat.le_refl _)⟩, hR.fr hf (fun h => hpr h.symm) (fun h => hpA h.symm)⟩

set_option maxRecDepth 100000 in
set_option maxHeartbeats 2000000 in
theorem fas_no (hC : ContSaid) {r A : Nat} {ws : List Bags.W} (hz : ws.length ≤ 1000) {N : Nat} (hE : Meth 126 V1 .expr N r A ws) {n : Nat} (hn : n ≤ N) {W : World} {i pw p1 p2 : Nat} {t1 t2 : TypeId} {x : Bags.W} {x0 : Value} (hw : wordBlk W pw x) (b1 : Blk W p1 t1 #[.pointer (some ⟨r, 0, none⟩)])
    (b2 : Blk W p2 t2 #[x0]) (hpr : p2 ≠ r) (hpr1 : p1 ≠ r) (hpA : p2 ≠ A) (hr : Rdr W r A ws i) (hi : i ≤ ws.length) (hx : x.text = Bags.str "count") (hs : (Bags.hd (ws.drop i)).is 5 [Bags.str "*"] = false) (hy : Bags.par n .expr (ws.drop i) = some none) :
    Calls Tryz.prog 146 #[.pointer (some ⟨pw, 0, none⟩), .pointer (some ⟨p1, 0, none⟩), .pointer (some ⟨p2, 0, none⟩)] W (fun e w' => Does (fun k => k = r ∨ k = p2) r A ws none (fun _ _ => True) W e w' ∧ ∃ v, Blk w' p2 t2 #[v]) := by
  have HR1 := Lib.hid hr
  have HB := Lib.hid b2
  have HB1 := Lib.hid b1
  have HE := Lib.hid hE
  have HY := Lib.hid hy
  have hl1 := b1.lt
  have hl2 := b2.lt
  have hlr := hr.lt
  have c0 := b1.cell 0
  have d1 := hw.cell 1
  have hnot : ∀ (x : Bool) (w : World), (Op.unary .not (.bool x)).run Tryz.prog w = .ok (.bool (!x)) w := fun _ _ => rfl
  simp at c0 d1
  have tt : (tx x.text).toList = [99, 111, 117, 110, 116] := by rw [hx, bs_toList]; decide
  have H1 := Lib.hid (show isT (Bags.hd (ws.drop i)) 5 [Bags.str "*"] = false from hs)
  clear hr b1 b2 hw hx hE hy hs
  go_enter Tryz.func146, Tryz.ntmps146
  go_wp2_with fail
  refine (takes_no hC HR1.out (by omega) (by omega) H1.out (by decide) (by decide) rfl (by first | rfl | simp) rfl).mono ?_
  rintro e w2 ⟨rfl, hR, hG⟩
  have HR := Lib.hid hR
  have HG := Lib.hid hG
  have HB2 := Lib.hid (HB.out.fr hG hpr)
  have hb1 := HB1.out.fr hG hpr1
  have cc := hb1.cell 0
  simp at cc
  clear hR hG hb1
  go_wp2_with fail
  refine (HE.out n hn _ i _ trivial HR.out hi HY.out).mono ?_
  rintro e w5 ⟨hG, rfl, hR⟩
  exact ⟨rfl, ⟨(HG.out.t hG).mono (fun _ _ h => .inl h), rfl, hR⟩, _, HB2.out.fr hG hpr⟩

set_option maxRecDepth 100000 in
set_option maxHeartbeats 2000000 in
theorem fas_yes (hC : ContSaid) {r A : Nat} {ws : List Bags.W} (hz : ws.length ≤ 1000) {N : Nat} (hE : Meth 126 V1 .expr N r A ws) {n : Nat} (hn : n ≤ N) {W : World} {i pw p1 p2 : Nat} {t1 t2 : TypeId} {x : Bags.W} {x0 : Value} (hw : wordBlk W pw x) (b1 : Blk W p1 t1 #[.pointer (some ⟨r, 0, none⟩)])
    (b2 : Blk W p2 t2 #[x0]) (hpr : p2 ≠ r) (hpr1 : p1 ≠ r) (hpA : p2 ≠ A) (hr : Rdr W r A ws i) (hi : i ≤ ws.length) (hx : x.text = Bags.str "count") (hs : (Bags.hd (ws.drop i)).is 5 [Bags.str "*"] = false) {j : Nat} (hj : j ≤ ws.length) {t : Bags.T} (hy : Bags.par n .expr (ws.drop i) = some (some (t, ws.drop j))) :
    Calls Tryz.prog 146 #[.pointer (some ⟨pw, 0, none⟩), .pointer (some ⟨p1, 0, none⟩), .pointer (some ⟨p2, 0, none⟩)] W (Does (fun k => k = r ∨ k = p2) r A ws (some j) (fun x w' => x = .tuple #[] ∧ ∃ v, Blk w' p2 t2 #[v] ∧ rep w' W.heap.size t [v]) W) := by
  have HR1 := Lib.hid hr
  have HB := Lib.hid b2
  have HB1 := Lib.hid b1
  have HE := Lib.hid hE
  have HY := Lib.hid hy
  have hl1 := b1.lt
  have hl2 := b2.lt
  have hlr := hr.lt
  have c0 := b1.cell 0
  have d1 := hw.cell 1
  have hnot : ∀ (x : Bool) (w : World), (Op.unary .not (.bool x)).run Tryz.prog w = .ok (.bool (!x)) w := fun _ _ => rfl
  simp at c0 d1
  have tt : (tx x.text).toList = [99, 111, 117, 110, 116] := by rw [hx, bs_toList]; decide
  have H1 := Lib.hid (show isT (Bags.hd (ws.drop i)) 5 [Bags.str "*"] = false from hs)
  clear hr b1 b2 hw hx hE hy hs
  go_enter Tryz.func146, Tryz.ntmps146
  go_wp2_with fail
  refine (takes_no hC HR1.out (by omega) (by omega) H1.out (by decide) (by decide) rfl (by first | rfl | simp) rfl).mono ?_
  rintro e w2 ⟨rfl, hR, hG⟩
  have HR := Lib.hid hR
  have HG := Lib.hid hG
  have HB2 := Lib.hid (HB.out.fr hG hpr)
  have hb1 := HB1.out.fr hG hpr1
  have cc := hb1.cell 0
  simp at cc
  clear hR hG hb1
  go_wp2_with fail
  refine (HE.out n hn _ i _ trivial HR.out hi HY.out).mono ?_
  rintro e w5 ⟨hG, x5, jx, rfl, hx, hjx, hdr, hR⟩
  obtain rfl : j = jx := drop_inj hj hjx hdr
  obtain ⟨tp, vp, rfl⟩ := rep.iface hx
  have hb2 := HB2.out.fr hG hpr
  have HB3 := Lib.hid hb2
  have d0 := hb2.cell 0
  have g0 := hb2.free 0
  simp at d0
  have HX := Lib.hid (show rep w5 W.heap.size t [.iface tp vp] from rep.fr (Fr.refl (fun _ => False) _) (fun _ h => h.elim) HG.out.size hx)
  have HO := Lib.hid (And.intro hG hR)
  clear hb2 hx hG hR
  go_wp2_with fail
  obtain ⟨hG, hR⟩ := HO.out
  have hput := HB3.out.put 0 (.iface tp vp)
  have hf : Fr (· = p2) w5 (w5.setCell ⟨p2, 0, none⟩ (.iface tp vp)) := (Fr.refl (· = p2) w5).set (.inr rfl) _
  refine bodyPost_end (results_none rfl _ _ _) rfl ⟨((HG.out.t hG).mono (fun _ _ h => .inl h)).t (hf.mono (fun _ _ h => .inr h)), ⟨_, rfl, rfl, _, by simpa using hput, HX.out.fr hf (fun k h => h ▸ hl2) (Nat.le_refl _)⟩, hR.fr hf (fun h => hpr h.symm) (fun h => hpA h.symm)⟩

theorem bracka (hC : ContSaid) {r A : Nat} {ws : List Bags.W} (hz : ws.length ≤ 1000) {N : Nat} (hM : Meth 126 V1 .expr N r A ws) {n : Nat} (hn : n ≤ N) {W : World} {i pw p1 p2 : Nat} {t1 t2 : TypeId} {X : Bags.W} (hw : wordBlk W pw X) (b1 : Blk W p1 t1 #[.pointer (some ⟨r, 0, none⟩)])
    (b2 : Blk W p2 t2 #[.nilIface]) (hpw : pw ≠ r) (hpr : p2 ≠ r) (hpr1 : p1 ≠ r) (hpA : p2 ≠ A) (hr : Rdr W r A ws i) (hi : i ≤ ws.length) {y : Option (Bags.T × List Bags.W)}
    (hy : (if (Bags.hd (ws.drop i)).is 5 [Bags.str "("] then (if X.text = Bags.str "count" ∧ (Bags.hd (ws.drop (i + 1))).is 5 [Bags.str "*"] then (if (Bags.hd (ws.drop (i + 1 + 1))).is 5 [Bags.str ")"] then Bags.ok (.agg X.text .none) (ws.drop (i + 1 + 1 + 1)) else Bags.miss)
      else (Bags.par n .expr (ws.drop (i + 1))).andThen fun e r => if (Bags.hd r).is 5 [Bags.str ")"] then Bags.ok (.agg X.text e) r.tail else Bags.miss) else Bags.miss) = some y) :
    (y = none → Calls Tryz.prog 124 #[.pointer (some ⟨r, 0, none⟩), .func (.func 146) #[] #[.pointer (some ⟨pw, 0, none⟩), .pointer (some ⟨p1, 0, none⟩), .pointer (some ⟨p2, 0, none⟩)]] W (fun e w' => Does (fun k => k = r ∨ k = p2) r A ws none (fun _ _ => True) W e w' ∧ ∃ v, Blk w' p2 t2 #[v])) ∧
    (∀ t rest, y = some (t, rest) → ∃ j e, j ≤ ws.length ∧ rest = ws.drop j ∧ t = .agg X.text e ∧
      Calls Tryz.prog 124 #[.pointer (some ⟨r, 0, none⟩), .func (.func 146) #[] #[.pointer (some ⟨pw, 0, none⟩), .pointer (some ⟨p1, 0, none⟩), .pointer (some ⟨p2, 0, none⟩)]] W
        (Does (fun k => k = r ∨ k = p2) r A ws (some j) (fun x w' => x = .tuple #[] ∧ ∃ v, Blk w' p2 t2 #[v] ∧ ((e = .none ∧ v = .nilIface) ∨ rep w' W.heap.size e [v])) W)) := by
  have hent : ∀ (args : Array Value) (w : World), (callFunc 146 args).run Tryz.prog w = .ok (.enter 146 args) w := fun _ _ => by kernel_rfl
  have hl1 := b1.lt
  have hl2 := b2.lt
  have hlr := hr.lt
  have hS : ∀ k, (k = r ∨ k = p2) → k < W.heap.size := fun k hk => by rcases hk with rfl | rfl <;> assumption
  have hI0 : (fun w => ∃ v, Blk w p2 t2 #[v]) W := ⟨_, b2⟩
  have hI : ∀ w1 w2, (fun w => ∃ v, Blk w p2 t2 #[v]) w1 → Fr (· = r) w1 w2 → (fun w => ∃ v, Blk w p2 t2 #[v]) w2 := fun w1 w2 h hf => ⟨_, h.choose_spec.fr hf hpr⟩
  cases h1 : (Bags.hd (ws.drop i)).is 5 [Bags.str "("]
  · rw [if_neg (by simp [h1])] at hy
    obtain ⟨rfl⟩ : none = y := by simpa [Bags.miss] using hy
    refine ⟨fun _ => ?_, fun _ _ h => (by cases h)⟩
    refine (inBrackets_any hC hr hi (by omega) (S := fun k => k = r ∨ k = p2) hS (.inl rfl) hent (o := none) (by simp) (by simp [h1]) (V := fun _ _ => True) (I := fun w => ∃ v, Blk w p2 t2 #[v]) hI0 hI (fun _ _ _ h => by simp [h1] at h)).mono ?_
    rintro e w' ⟨⟨h2, h3⟩, h4⟩
    simp only [h1, Bool.false_eq_true, if_false] at h3
    exact ⟨⟨h2, h3⟩, h4⟩
  · rw [if_pos h1] at hy
    have hi1 := lt_of_is h1 (by decide)
    by_cases hs : X.text = Bags.str "count" ∧ (Bags.hd (ws.drop (i + 1))).is 5 [Bags.str "*"] = true
    · rw [if_pos hs] at hy
      have hi2 := lt_of_is hs.2 (by decide)
      cases h2 : (Bags.hd (ws.drop (i + 1 + 1))).is 5 [Bags.str ")"]
      · rw [if_neg (by simp [h2])] at hy
        obtain ⟨rfl⟩ : none = y := by simpa [Bags.miss] using hy
        refine ⟨fun _ => ?_, fun _ _ h => (by cases h)⟩
        refine (inBrackets_any hC hr hi (by omega) (S := fun k => k = r ∨ k = p2) hS (.inl rfl) hent (o := some (i + 1 + 1)) (by simp; omega) (fun _ => by omega) (V := fun x w' => x = .tuple #[] ∧ Blk w' p2 t2 #[.nilIface]) (I := fun w => ∃ v, Blk w p2 t2 #[v]) hI0 hI (fun W' hf hr' _ => by
          simpa using (fa_star hC hz (hw.fr hf hpw) (b1.fr hf hpr1) (b2.fr hf hpr) hpr hr' (by omega) hs.1 hs.2).mono fun e w' h => ⟨h, by obtain ⟨_, ⟨_, _, _, hv⟩, _⟩ := h; exact ⟨_, hv⟩⟩)).mono ?_
        rintro e w' ⟨⟨h3, h4⟩, h5⟩
        simp only [h1, if_true, Option.bind_some, h2, Bool.false_eq_true, if_false] at h4
        exact ⟨⟨h3, h4⟩, h5⟩
      · rw [if_pos h2] at hy
        obtain ⟨rfl⟩ : some (_, _) = y := by simpa [Bags.ok] using hy
        have hj2 := lt_of_is h2 (by decide)
        refine ⟨fun h => (by cases h), fun t rest h => ?_⟩
        cases h
        refine ⟨i + 1 + 1 + 1, .none, by omega, rfl, rfl, ?_⟩
        refine (inBrackets_any hC hr hi (by omega) (S := fun k => k = r ∨ k = p2) hS (.inl rfl) hent (o := some (i + 1 + 1)) (by simp; omega) (fun _ => by omega) (V := fun x w' => x = .tuple #[] ∧ Blk w' p2 t2 #[.nilIface]) (I := fun w => ∃ v, Blk w p2 t2 #[v]) hI0 hI (fun W' hf hr' _ => by
          simpa using (fa_star hC hz (hw.fr hf hpw) (b1.fr hf hpr1) (b2.fr hf hpr) hpr hr' (by omega) hs.1 hs.2).mono fun e w' h => ⟨h, by obtain ⟨_, ⟨_, _, _, hv⟩, _⟩ := h; exact ⟨_, hv⟩⟩)).mono ?_
        rintro e w' ⟨⟨h3, h4⟩, _⟩
        simp only [h1, if_true, Option.bind_some, h2] at h4
        obtain ⟨⟨x, g1, g2, z, w1, ⟨g3, g4⟩, g6⟩, g7⟩ := h4
        exact ⟨h3, ⟨x, g1, g2, _, g4.fr g6 hpr, .inl ⟨rfl, rfl⟩⟩, g7⟩
    · rw [if_neg hs] at hy
      have hno : Bags.par n .expr (ws.drop (i + 1)) = some none → ∀ W', Fr (· = r) W W' → Rdr W' r A ws (i + 1) → Calls Tryz.prog 146 #[.pointer (some ⟨pw, 0, none⟩), .pointer (some ⟨p1, 0, none⟩), .pointer (some ⟨p2, 0, none⟩)] W' (fun e w' => Does (fun k => k = r ∨ k = p2) r A ws none (fun _ _ => True) W' e w' ∧ ∃ v, Blk w' p2 t2 #[v]) := by
        intro hp W' hf hr'
        by_cases hx : X.text = Bags.str "count"
        · exact fas_no hC hz hM hn (hw.fr hf hpw) (b1.fr hf hpr1) (b2.fr hf hpr) hpr hpr1 hpA hr' (by omega) hx (by simpa [hx] using hs) hp
        · exact fan_no hC hz hM hn (hw.fr hf hpw) (b1.fr hf hpr1) (b2.fr hf hpr) hpr hpr1 hpA hr' (by omega) hx hp
      have hyes : ∀ {j : Nat} {t : Bags.T}, j ≤ ws.length → Bags.par n .expr (ws.drop (i + 1)) = some (some (t, ws.drop j)) → ∀ W', Fr (· = r) W W' → Rdr W' r A ws (i + 1) → Calls Tryz.prog 146 #[.pointer (some ⟨pw, 0, none⟩), .pointer (some ⟨p1, 0, none⟩), .pointer (some ⟨p2, 0, none⟩)] W' (Does (fun k => k = r ∨ k = p2) r A ws (some j) (fun x w' => x = .tuple #[] ∧ ∃ v, Blk w' p2 t2 #[v] ∧ rep w' W'.heap.size t [v]) W') := by
        intro j t hj hp W' hf hr'
        by_cases hx : X.text = Bags.str "count"
        · exact fas_yes hC hz hM hn (hw.fr hf hpw) (b1.fr hf hpr1) (b2.fr hf hpr) hpr hpr1 hpA hr' (by omega) hx (by simpa [hx] using hs) hj hp
        · exact fan_yes hC hz hM hn (hw.fr hf hpw) (b1.fr hf hpr1) (b2.fr hf hpr) hpr hpr1 hpA hr' (by omega) hx hj hp
      rcases Bags.andThen_some hy with ⟨hp, rfl⟩ | ⟨q, rest, hp, hy2⟩
      · refine ⟨fun _ => ?_, fun _ _ h => (by cases h)⟩
        refine (inBrackets_any hC hr hi (by omega) (S := fun k => k = r ∨ k = p2) hS (.inl rfl) hent (o := none) (by simp) (fun _ => by omega) (V := fun _ _ => True) (I := fun w => ∃ v, Blk w p2 t2 #[v]) hI0 hI (fun W' hf hr' _ => by simpa using hno hp W' hf hr')).mono ?_
        rintro e w' ⟨⟨h2, h3⟩, h4⟩
        simp only [h1, if_true, Option.bind_none] at h3
        exact ⟨⟨h2, h3⟩, h4⟩
      · obtain ⟨j, q1, q2, rfl⟩ := drop_of hp (by omega)
        cases h2 : (Bags.hd (ws.drop j)).is 5 [Bags.str ")"]
        · rw [if_neg (by simp [h2])] at hy2
          obtain ⟨rfl⟩ : none = y := by simpa [Bags.miss] using hy2
          refine ⟨fun _ => ?_, fun _ _ h => (by cases h)⟩
          refine (inBrackets_any hC hr hi (by omega) (S := fun k => k = r ∨ k = p2) hS (.inl rfl) hent (o := some j) (by simpa using q2) (fun _ => by omega) (V := fun x w' => True) (I := fun w => ∃ v, Blk w p2 t2 #[v]) hI0 hI (fun W' hf hr' _ => by
            simpa using (hyes q2 hp W' hf hr').mono fun e w' h => ⟨⟨h.1, ⟨h.2.1.choose, h.2.1.choose_spec.1, trivial⟩, h.2.2⟩, by obtain ⟨_, ⟨_, _, _, v, hv, _⟩, _⟩ := h; exact ⟨v, hv⟩⟩)).mono ?_
          rintro e w' ⟨⟨h3, h4⟩, h5⟩
          simp only [h1, if_true, Option.bind_some, h2, Bool.false_eq_true, if_false] at h4
          exact ⟨⟨h3, h4⟩, h5⟩
        · rw [if_pos h2, List.tail_drop] at hy2
          obtain ⟨rfl⟩ : some (_, _) = y := by simpa [Bags.ok] using hy2
          have hj2 := lt_of_is h2 (by decide)
          refine ⟨fun h => (by cases h), fun t rest h => ?_⟩
          cases h
          refine ⟨j + 1, q, by omega, rfl, rfl, ?_⟩
          refine (inBrackets_any hC hr hi (by omega) (S := fun k => k = r ∨ k = p2) hS (.inl rfl) hent (o := some j) (by simpa using q2) (fun _ => by omega) (V := fun x w' => x = .tuple #[] ∧ ∃ v, Blk w' p2 t2 #[v] ∧ rep w' W.heap.size q [v]) (I := fun w => ∃ v, Blk w p2 t2 #[v]) hI0 hI (fun W' hf hr' _ => by
            simpa using (hyes q2 hp W' hf hr').mono fun e w' h => by
              obtain ⟨g1, ⟨x, g2, g3, v, g4, g5⟩, g6⟩ := h
              exact ⟨⟨g1, ⟨x, g2, g3, v, g4, g5.fr (Fr.refl (fun _ => False) _) (fun _ h => h.elim) hf.size⟩, g6⟩, v, g4⟩)).mono ?_
          rintro e w' ⟨⟨h3, h4⟩, _⟩
          simp only [h1, if_true, Option.bind_some, h2] at h4
          obtain ⟨⟨x, g1, g2, z, w1, ⟨g3, v, g4, g5⟩, g6⟩, g7⟩ := h4
          exact ⟨h3, ⟨x, g1, g2, v, g4.fr g6 hpr, .inr (g5.fr g6 (fun k h => h ▸ hlr) (Nat.le_refl _))⟩, g7⟩
end Go.Proofs.YtoephflcjllaaaaGreatDoor
