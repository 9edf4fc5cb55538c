/- The parser's methods, joined. -/
import Derived.Test.YtoephflcjllaaaaGreatDoorJ17
import Derived.Test.YtoephflcjllaaaaGreatDoorJ19
import Derived.Test.YtoephflcjllaaaaGreatDoorJ01
import Derived.Test.YtoephflcjllaaaaGreatDoorJ20
namespace Go.Proofs.YtoephflcjllaaaaGreatDoor
open Go.RowKit

/-- All methods of the parser, up to so much fuel. -/
structure Said (N r A : Nat) (ws : List Bags.W) : Prop where
  query : Meth 63 V1 .query N r A ws
  core : Meth 81 V1 .core N r A ws
  sub : Meth 101 V1 .sub N r A ws
  item : Meth 103 V2 .item N r A ws
  source : Meth 105 V2 .source N r A ws
  col : Meth 108 VC .col N r A ws
  cond : Meth 106 V1 .cond N r A ws
  neg : Meth 130 V1 .neg N r A ws
  basic : Meth 144 V1 .basic N r A ws
  expr : Meth 126 V1 .expr N r A ws
  factor : Meth 142 V1 .factor N r A ws

theorem meth_zero {F : FuncId} {V : World → Nat → Bags.T → Value → Prop} {m : Bags.M} {r A : Nat} {ws : List Bags.W} : Meth F V m 0 r A ws := by
  intro n hn W i y _ _ _ hy
  have : n = 0 := by omega
  subst this
  simp [Bags.par] at hy

theorem said (hC : ContSaid) {r A : Nat} {ws : List Bags.W} (hz : ws.length ≤ 1000) (hT : ∀ j, (Bags.hd (ws.drop j)).text.length ≤ 1000) : ∀ N, Said N r A ws
  | 0 => ⟨meth_zero, meth_zero, meth_zero, meth_zero, meth_zero, meth_zero, meth_zero, meth_zero, meth_zero, meth_zero, meth_zero⟩
  | N + 1 =>
    have h := said hC hz hT N
    ⟨query_any hC hz hT h.core, core_any hC hz h.sub h.item h.source h.col h.cond, subquery_any hC hz h.query, item_any hC hz h.expr, source_any hC hz _, column_any hC hz _,
      cond_any hC hz h.neg, negated_any hC hz h.basic h.neg, basic_any hC hz h.sub h.expr h.cond, expr_any hC hz h.factor, factor_any hC hz h.factor h.expr h.col⟩
end Go.Proofs.YtoephflcjllaaaaGreatDoor
/- Walks: parsed. -/
namespace Go.Proofs.YtoephflcjllaaaaGreatDoor
open Go.RowKit
set_option linter.unusedVariables false

set_option maxRecDepth 100000 in
set_option maxHeartbeats 2000000 in
theorem pc_no (hC : ContSaid) {r A : Nat} {ws : List Bags.W} (hz : ws.length ≤ 1000) {N : Nat} (hM : Meth 63 V1 .query N r A ws) {n : Nat} (hn : n ≤ N) {W : World} {p1 p2 : Nat} {t1 t2 : TypeId} {x0 : Value} (b1 : Blk W p1 t1 #[.pointer (some ⟨r, 0, none⟩)])
    (b2 : Blk W p2 t2 #[x0]) (hpr : p2 ≠ r) (hpr1 : p1 ≠ r) (hpp : p1 ≠ p2) (hpA : p2 ≠ A) (hr : Rdr W r A ws 0) (hy : Bags.par n .query (ws.drop 0) = some none) :
    Calls Tryz.prog 62 #[.pointer (some ⟨p1, 0, none⟩), .pointer (some ⟨p2, 0, none⟩)] W (Does (fun k => k = r ∨ k = p2) r A ws none (fun _ _ => True) W) := by
  have HM := Lib.hid hM
  have HR := Lib.hid hr
  have HY := Lib.hid hy
  have HB1 := Lib.hid b1
  have HB2 := Lib.hid b2
  have c0 := b1.cell 0
  have hlt := hr.lt
  have hlt1 := b1.lt
  have hlt2 := b2.lt
  simp at c0
  clear hr hy hM b1 b2
  go_enter Tryz.func62, Tryz.ntmps62
  go_wp2_with fail
  refine (HM.out n hn _ 0 _ trivial HR.out (by omega) HY.out).mono ?_
  rintro e w2 ⟨hG, rfl, hR⟩
  exact ⟨rfl, hG.mono (fun _ _ h => .inl h), rfl, hR⟩

set_option maxRecDepth 100000 in
set_option maxHeartbeats 2000000 in
theorem pc_more (hC : ContSaid) {r A : Nat} {ws : List Bags.W} (hz : ws.length ≤ 1000) {N : Nat} (hM : Meth 63 V1 .query N r A ws) {n : Nat} (hn : n ≤ N) {W : World} {p1 p2 : Nat} {t1 t2 : TypeId} {x0 : Value} (b1 : Blk W p1 t1 #[.pointer (some ⟨r, 0, none⟩)])
    (b2 : Blk W p2 t2 #[x0]) (hpr : p2 ≠ r) (hpr1 : p1 ≠ r) (hpp : p1 ≠ p2) (hpA : p2 ≠ A) (hr : Rdr W r A ws 0) {j : Nat} (hj : j ≤ ws.length) {t : Bags.T} (hy : Bags.par n .query (ws.drop 0) = some (some (t, ws.drop j))) (hend : (Bags.hd (ws.drop j)).sort ≠ 0) :
    Calls Tryz.prog 62 #[.pointer (some ⟨p1, 0, none⟩), .pointer (some ⟨p2, 0, none⟩)] W (Does (fun k => k = r ∨ k = p2) r A ws none (fun _ _ => True) W) := by
  have HM := Lib.hid hM
  have HR := Lib.hid hr
  have HY := Lib.hid hy
  have HB1 := Lib.hid b1
  have HB2 := Lib.hid b2
  have c0 := b1.cell 0
  have hlt := hr.lt
  have hlt1 := b1.lt
  have hlt2 := b2.lt
  simp at c0
  clear hr hy hM b1 b2
  go_enter Tryz.func62, Tryz.ntmps62
  go_wp2_with fail
  refine (HM.out n hn _ 0 _ trivial HR.out (by omega) HY.out).mono ?_
  rintro e w2 ⟨hG, x, jx, rfl, hx, hjx, hdr, hR⟩
  obtain rfl : j = jx := drop_inj hj hjx hdr
  obtain ⟨tp, vp, rfl⟩ := rep.iface hx
  have hb2 := HB2.out.fr hG hpr
  have d0 := hb2.cell 0
  have g0 := hb2.free 0
  simp at d0
  have hb1 := (HB1.out.fr hG hpr1).far (p := ⟨p2, 0, none⟩) hpp (.iface tp vp)
  have c1 := hb1.cell 0
  simp at c1
  have hf : Fr (· = p2) w2 (w2.setCell ⟨p2, 0, none⟩ (.iface tp vp)) := (Fr.refl (· = p2) w2).set (.inr rfl) _
  have HR3 := Lib.hid (hR.fr hf (fun h => hpr h.symm) (fun h => hpA h.symm))
  have HG3 := Lib.hid ((hG.mono (fun _ _ h => .inl h) : Fr (fun k => k = r ∨ k = p2) W w2).t (hf.mono (fun _ _ h => .inr h)))
  have HV := Lib.hid (And.intro (show Blk _ p2 t2 #[.iface tp vp] by simpa using hb2.put 0 (.iface tp vp)) (rep.fr hf (fun k h => h ▸ hlt2) (Nat.le_refl _) hx))
  clear hG hx hR hb2 hb1 hf
  go_wp2_with fail
  refine (must_sort_no hC HR3.out hj (by omega) hend).mono ?_
  rintro e w4 ⟨rfl, hR, hG⟩
  exact ⟨rfl, HG3.out.t (hG.mono (fun _ _ h => .inl h)), rfl, _, hR⟩

set_option maxRecDepth 100000 in
set_option maxHeartbeats 2000000 in
theorem pc_yes (hC : ContSaid) {r A : Nat} {ws : List Bags.W} (hz : ws.length ≤ 1000) {N : Nat} (hM : Meth 63 V1 .query N r A ws) {n : Nat} (hn : n ≤ N) {W : World} {p1 p2 : Nat} {t1 t2 : TypeId} {x0 : Value} (b1 : Blk W p1 t1 #[.pointer (some ⟨r, 0, none⟩)])
    (b2 : Blk W p2 t2 #[x0]) (hpr : p2 ≠ r) (hpr1 : p1 ≠ r) (hpp : p1 ≠ p2) (hpA : p2 ≠ A) (hr : Rdr W r A ws 0) {j : Nat} (hj : j ≤ ws.length) {t : Bags.T} (hy : Bags.par n .query (ws.drop 0) = some (some (t, ws.drop j))) (hend : (Bags.hd (ws.drop j)).sort = 0) :
    Calls Tryz.prog 62 #[.pointer (some ⟨p1, 0, none⟩), .pointer (some ⟨p2, 0, none⟩)] W (Does (fun k => k = r ∨ k = p2) r A ws (some (j + 1)) (fun x w' => x = .tuple #[] ∧ ∃ v, Blk w' p2 t2 #[v] ∧ rep w' W.heap.size t [v]) W) := by
  have HM := Lib.hid hM
  have HR := Lib.hid hr
  have HY := Lib.hid hy
  have HB1 := Lib.hid b1
  have HB2 := Lib.hid b2
  have c0 := b1.cell 0
  have hlt := hr.lt
  have hlt1 := b1.lt
  have hlt2 := b2.lt
  simp at c0
  clear hr hy hM b1 b2
  go_enter Tryz.func62, Tryz.ntmps62
  go_wp2_with fail
  refine (HM.out n hn _ 0 _ trivial HR.out (by omega) HY.out).mono ?_
  rintro e w2 ⟨hG, x, jx, rfl, hx, hjx, hdr, hR⟩
  obtain rfl : j = jx := drop_inj hj hjx hdr
  obtain ⟨tp, vp, rfl⟩ := rep.iface hx
  have hb2 := HB2.out.fr hG hpr
  have d0 := hb2.cell 0
  have g0 := hb2.free 0
  simp at d0
  have hb1 := (HB1.out.fr hG hpr1).far (p := ⟨p2, 0, none⟩) hpp (.iface tp vp)
  have c1 := hb1.cell 0
  simp at c1
  have hf : Fr (· = p2) w2 (w2.setCell ⟨p2, 0, none⟩ (.iface tp vp)) := (Fr.refl (· = p2) w2).set (.inr rfl) _
  have HR3 := Lib.hid (hR.fr hf (fun h => hpr h.symm) (fun h => hpA h.symm))
  have HG3 := Lib.hid ((hG.mono (fun _ _ h => .inl h) : Fr (fun k => k = r ∨ k = p2) W w2).t (hf.mono (fun _ _ h => .inr h)))
  have HV := Lib.hid (And.intro (show Blk _ p2 t2 #[.iface tp vp] by simpa using hb2.put 0 (.iface tp vp)) (rep.fr hf (fun k h => h ▸ hlt2) (Nat.le_refl _) hx))
  clear hG hx hR hb2 hb1 hf
  go_wp2_with fail
  refine (must_sort hC HR3.out hj (by omega) hend).mono ?_
  rintro e w4 ⟨rfl, hR, hG⟩
  have HO := Lib.hid (And.intro hR hG)
  clear hR hG
  go_wp2_with fail
  obtain ⟨hR, hG⟩ := HO.out
  exact bodyPost_end (results_none rfl _ _ _) rfl ⟨HG3.out.t (hG.mono (fun _ _ h => .inl h)), ⟨_, rfl, rfl, _, HV.out.1.fr hG hpr, HV.out.2.fr hG (fun k h => h ▸ hlt) (Nat.le_refl _)⟩, hR⟩

/-- What parsed answers. -/
def ParsedPost (s : ByteArray) (w : World) (e : Ending) (w' : World) : Prop :=
  Below w.heap.size w w' ∧ ((∃ k p b : Nat, e = .panicked (thrown b) ∧ w.heap.size ≤ b ∧ Blk w' b 75 #[.int .i64 k, .int .i64 p] ∧ Bags.Reading (bs s) (.inl (k, p))) ∨
    (∃ t x, e = .returned x ∧ rep w' w.heap.size t [x] ∧ Bags.Reading (bs s) (.inr t)))
theorem Rdr.made {w : World} {B : Nat} {v : Value} {ws : List Bags.W} (h : w.ownsRow B 149 3 v (ws.length + 1) ((ws ++ [Bags.endW]).flatMap wordCells)) :
    ∃ A cap, v = .slice (some ⟨A, 0, none⟩) (ws.length + 1) cap ∧ B ≤ A ∧ A < w.heap.size ∧ Rdr (w.alloc (.cells #[v, .int .i64 0] 144)) w.heap.size A ws 0 := by
  obtain ⟨h1, h2⟩ := h
  rcases h2 with ⟨_, h2⟩ | ⟨g, cap, cur, rfl, h3, h4, h5, h6, h7, h8⟩
  · omega
  · exact ⟨g, cap, rfl, h3, lt_of_some h4, cap, cur, Blk.made _ _ _, (Below.heap_alloc w _ g (lt_of_some h4)).trans h4, h5, h6, h8⟩

theorem is_open (X : Bags.W) : X.is 5 [Bags.str "("] = (decide ((X.sort : Int) = 5) && ((tx X.text).toList == [40])) := by
  have h : Bags.str "(" = [40] := by decide
  rw [bs_toList, bs_tx, h, Bags.W.is]
  congr 1
  · rw [Bool.eq_iff_iff]; simp; omega
  · rw [Bool.eq_iff_iff]; simp
theorem is_shut (X : Bags.W) : X.is 5 [Bags.str ")"] = (decide ((X.sort : Int) = 5) && ((tx X.text).toList == [41])) := by
  have h : Bags.str ")" = [41] := by decide
  rw [bs_toList, bs_tx, h, Bags.W.is]
  congr 1
  · rw [Bool.eq_iff_iff]; simp; omega
  · rw [Bool.eq_iff_iff]; simp
set_option maxRecDepth 100000 in
set_option maxHeartbeats 8000000 in
theorem parsed_any (hC : ContSaid) (hP : ParseSaid) (s : ByteArray) (w : World) (hs : s.size ≤ 140737488351232) (hv : Vars w) : Calls Tryz.prog 40 #[.string s] w (ParsedPost s w) := by
  have HW := Lib.hid (words_any hP s w hs hv)
  have hmf := hmf
  have hnot : ∀ (x : Bool) (w : World), (Op.unary .not (.bool x)).run Tryz.prog w = .ok (.bool (!x)) w := fun _ _ => rfl
  cases hws : Bags.words (bs s) with
  | inl p =>
    have HS := Lib.hid hws
    clear hv hws
    go_enter Tryz.func40, Tryz.ntmps40
    go_wp2_with fail
    refine HW.out.mono ?_
    rintro e w2 ⟨hb, h⟩
    rw [HS.out] at h
    obtain ⟨b, rfl, h1, h2⟩ := h
    exact ⟨rfl, hb, .inl ⟨2, p, b, rfl, h1, h2, by unfold Bags.Reading; rw [HS.out]⟩⟩
  | inr ws =>
    have HS := Lib.hid hws
    obtain ⟨hz, hT⟩ := Bags.words_bound hws
    have HT := Lib.hid (Bags.hd_bound hT)
    clear hv hws hT
    go_enter Tryz.func40, Tryz.ntmps40
    go_wp2_with fail
    refine HW.out.mono ?_
    rintro e w2 ⟨hb, h⟩
    rw [HS.out] at h
    obtain ⟨v, rfl, h1⟩ := h
    obtain ⟨A, cap, rfl, hA, hA2, hR⟩ := Rdr.made h1
    have HB := Lib.hid hb
    have HR := Lib.hid hR
    have hsz := hb.size
    clear hb h1 hR
    go_wp2_with fail
    have hR3 := (HR.out.alloc (.cells #[.pointer (some ⟨w2.heap.size, 0, none⟩)] 140)).alloc (.cells #[.nilIface] 94)
    have hb1 : Blk (((w2.alloc (.cells #[.slice (some ⟨A, 0, none⟩) (ws.length + 1) cap, .int .i64 0] 144)).alloc (.cells #[.pointer (some ⟨w2.heap.size, 0, none⟩)] 140)).alloc (.cells #[.nilIface] 94)) (w2.heap.size + 1) _ _ := (Blk.made' (by simp) 140 #[.pointer (some ⟨w2.heap.size, 0, none⟩)]).alloc _
    have hb2 : Blk (((w2.alloc (.cells #[.slice (some ⟨A, 0, none⟩) (ws.length + 1) cap, .int .i64 0] 144)).alloc (.cells #[.pointer (some ⟨w2.heap.size, 0, none⟩)] 140)).alloc (.cells #[.nilIface] 94)) (w2.heap.size + 1 + 1) _ _ := Blk.made' (by simp) 94 #[.nilIface]
    obtain ⟨y, N, hN⟩ := Bags.total _ .query ws (Nat.le_refl _)
    have hpar := hN N (Nat.le_refl _)
    have HP := Lib.hid (show Bags.P .query ws y from ⟨N, hN⟩)
    have HM := Lib.hid (said hC (r := w2.heap.size) (A := A) (by omega : ws.length ≤ 1000) HT.out N).query
    clear hN
    have hfail : ∀ (HC : (∀ W', Below ((((w2.alloc (.cells #[.slice (some ⟨A, 0, none⟩) (ws.length + 1) cap, .int .i64 0] 144)).alloc (.cells #[.pointer (some ⟨w2.heap.size, 0, none⟩)] 140)).alloc (.cells #[.nilIface] 94))).heap.size (((w2.alloc (.cells #[.slice (some ⟨A, 0, none⟩) (ws.length + 1) cap, .int .i64 0] 144)).alloc (.cells #[.pointer (some ⟨w2.heap.size, 0, none⟩)] 140)).alloc (.cells #[.nilIface] 94)) W' → Calls Tryz.prog 62 #[.pointer (some ⟨w2.heap.size + 1, 0, none⟩), .pointer (some ⟨w2.heap.size + 1 + 1, 0, none⟩)] W' (Does (fun k => k = w2.heap.size ∨ k = w2.heap.size + 1 + 1) w2.heap.size A ws none (fun _ _ => True) W'))),
        Bags.Reading (bs s) (.inl (3, 0)) → Calls Tryz.prog 61 #[.pointer (some ⟨w2.heap.size, 0, none⟩), .func (.func 62) #[] #[.pointer (some ⟨w2.heap.size + 1, 0, none⟩), .pointer (some ⟨w2.heap.size + 1 + 1, 0, none⟩)]] (((w2.alloc (.cells #[.slice (some ⟨A, 0, none⟩) (ws.length + 1) cap, .int .i64 0] 144)).alloc (.cells #[.pointer (some ⟨w2.heap.size, 0, none⟩)] 140)).alloc (.cells #[.nilIface] 94)) fun e w' => e = .returned (.bool false) ∧ Fr (fun k => w.heap.size ≤ k) w w' := by
      intro HC hread
      refine (tries_no hR3 (S := fun k => k = w2.heap.size ∨ k = w2.heap.size + 1 + 1) (fun k hk => by simp; omega) (.inl rfl) (fun _ _ => by kernel_rfl) (I := fun _ => True) (V := fun _ _ => True) (fun W' hb _ => by
        have h1 := (HC W' hb).mono (R' := fun e w' => Does (fun k => k = w2.heap.size ∨ k = w2.heap.size + 1 + 1) w2.heap.size A ws none (fun _ _ => True) W' e w' ∧ True) fun _ _ h => And.intro h trivial
        simpa using h1)).mono ?_
      rintro e w4 ⟨rfl, hR, hG, _⟩
      have h0 : Fr (fun k => w.heap.size ≤ k) w (((w2.alloc (.cells #[.slice (some ⟨A, 0, none⟩) (ws.length + 1) cap, .int .i64 0] 144)).alloc (.cells #[.pointer (some ⟨w2.heap.size, 0, none⟩)] 140)).alloc (.cells #[.nilIface] 94)) := (((Fr.of_below HB.out).alloc _).alloc _).alloc _
      exact ⟨rfl, h0.trans hG (fun k hk h => by omega)⟩
    rcases y with _ | ⟨t, rest⟩
    · have hread : Bags.Reading (bs s) (.inl (3, 0)) := by
        unfold Bags.Reading
        rw [HS.out]
        exact .inr ⟨fun t hg => (by have := Bags.P.uniq HP.out ((Bags.query_iff _ _).2 hg); cases this), rfl⟩
      have HT0 := Lib.hid (hfail (fun W' hb => pc_no hC (by omega) HM.out (Nat.le_refl _) (hb1.below hb (hb1.lt)) (hb2.below hb (hb2.lt)) (by omega) (by omega) (by omega) (by omega) (hR3.below hb) hpar) hread)
      clear hfail hb1 hb2 hR3
      refine HT0.out.mono ?_
      rintro e w4 ⟨rfl, hG⟩
      have HG := Lib.hid hG
      clear hG
      go_wp2_with fail
      refine (fault_any _ _ _).mono ?_
      rintro e w5 ⟨rfl, rfl⟩
      have hsz4 := HG.out.size
      exact ⟨rfl, (HG.out.below (Nat.le_refl _) (fun _ h => h)).alloc hsz4 _, .inl ⟨3, 0, _, rfl, hsz4, Blk.made _ _ _, hread⟩⟩
    · obtain ⟨j, _, hj, rfl⟩ := drop_of (i := 0) hpar (Nat.zero_le _)
      by_cases hend : (Bags.hd (ws.drop j)).sort = 0
      · have hrest := Bags.hd_end (Bags.words_sorts HS.out) hend
        have hG : Bags.G .query ws t := (Bags.query_iff _ _).1 (by rw [← hrest]; exact HP.out)
        have HGr := Lib.hid hG
        have hlen := congrArg List.length hrest
        simp at hlen
        have HT0 := Lib.hid (tries_yes hR3 (S := fun k => k = w2.heap.size ∨ k = w2.heap.size + 1 + 1) (j := j + 1) (F := 62) (first := #[]) (cap := #[.pointer (some ⟨w2.heap.size + 1, 0, none⟩), .pointer (some ⟨w2.heap.size + 1 + 1, 0, none⟩)]) (fun k hk => by simp; omega) (fun _ _ => by kernel_rfl)
          (V := fun x w' => x = .tuple #[] ∧ ∃ v, Blk w' (w2.heap.size + 1 + 1) 94 #[v] ∧ rep w' (w2.heap.size + 6) t [v]) (fun W' hb hs => by
            have h1 := (pc_yes hC (by omega) HM.out (Nat.le_refl _) (hb1.below hb (hb1.lt)) (hb2.below hb (hb2.lt)) (by omega) (by omega) (by omega) (by omega) (hR3.below hb) hj hpar hend).mono
              (R' := Does (fun k => k = w2.heap.size ∨ k = w2.heap.size + 1 + 1) w2.heap.size A ws (some (j + 1)) (fun x w' => x = .tuple #[] ∧ ∃ v, Blk w' (w2.heap.size + 1 + 1) 94 #[v] ∧ rep w' (w2.heap.size + 6) t [v]) W') (fun e w' h => by
                obtain ⟨g1, ⟨x, g2, g3, v, g4, g5⟩, g6⟩ := h
                exact ⟨g1, ⟨x, g2, g3, v, g4, g5.fr (Fr.refl (fun _ => False) _) (fun _ h => h.elim) (by simp at hs; omega)⟩, g6⟩)
            simpa using h1))
        have HB1 := Lib.hid hb1
        clear hfail hb1 hb2 hR3
        refine HT0.out.mono ?_
        rintro e w4 ⟨rfl, hR, hG, x, w1, ⟨rfl, v, hbv, hv⟩, hf1, hs1⟩
        obtain ⟨tp, vp, rfl⟩ := rep.iface hv
        have hb4 := hbv.fr hf1 (by simp)
        have hv4 := hv.fr hf1 (fun k h => by simp only [World.size_alloc] at h; omega) (Nat.le_refl _)
        have hp4 := HB1.out.fr hG (by omega)
        have p0 := hp4.cell 0
        obtain ⟨cp, hrb, hl, hcells⟩ := hR.cells
        have r0 := hrb.cell 0
        simp at p0 r0
        have HO := Lib.hid (And.intro hR (And.intro hG (And.intro hb4 hv4)))
        have HCE := Lib.hid hcells
        have hsz4 := hG.size
        simp at hsz4
        clear hR hG hbv hv hf1 hb4 hv4 hp4 hrb hcells
        go_wp2_with fail
        go_loopw [6, 24] (fun o v wr => ∃ (k : Nat) (c : Int), k ≤ ws.length + 1 ∧ v = .int .i64 (k : Nat) ∧ o = .int .i64 c ∧ c ≤ 16 ∧ -(k : Int) ≤ c ∧ Bags.deepFrom 0 ws = Bags.deepFrom c (ws.drop k) ∧ Below w4.heap.size w4 wr)
          (fun _ v _ => ws.length + 1 - (intOf v).toNat)
        case atStart => exact ⟨0, 0, by omega, rfl, rfl, by omega, by omega, rfl, Below.refl _ _⟩
        case round =>
          rename_i wr
          obtain ⟨k, c, hk, rfl, rfl, hc1, hc2, hdeep, hbl⟩ := hrel
          have HBL := Lib.hid hbl
          have HD := Lib.hid hdeep
          by_cases hlt : k < ws.length + 1
          · obtain ⟨d0, d1, d2⟩ := HCE.out k (by omega)
            have e0 := (hbl.cell (p := ⟨A, k * 3, none⟩) (by show A < w4.heap.size; omega)).trans d0
            have e1 := (hbl.cell (p := ⟨A, k * 3 + 1, none⟩) (by show A < w4.heap.size; omega)).trans d1
            have e2 := (hbl.cell (p := ⟨A, k * 3 + 2, none⟩) (by show A < w4.heap.size; omega)).trans d2
            have f0 := fun o => cell_alloc e0 o
            have f1 := fun o => cell_alloc e1 o
            have f2 := fun o => cell_alloc e2 o
            have hlt' : (k : Int) < (ws.length : Int) + 1 := by omega
            unfold maxLen at hl
            clear d0 d1 d2 hbl hdeep
            generalize hW : Bags.hd (ws.drop k) = X at *
            have hst := Bags.deep_step (ws := ws) (k := k) (c := c) (by omega) hc1
            rw [hW] at hst
            have HST := Lib.hid hst
            clear hst
            go_wp2_with fail
            all_goals first
              | (refine ⟨⟨k + 1, _, by omega, by simp, rfl, by omega, by omega, ?_, HBL.out.alloc HBL.out.size _⟩, by simp [intOf]; omega⟩
                 rw [HD.out, HST.out]
                 simp only [is_open, is_shut]
                 first
                   | (simp [*]; done)
                   | (simp [*]; omega))
              | (refine (fault_any _ _ _).mono ?_
                 rintro e w5 ⟨rfl, rfl⟩
                 have hdt : Bags.deepFrom 0 ws = true := by
                   rw [HD.out, HST.out]
                   simp only [is_open, is_shut]
                   simp [*]
                 have hfr : Fr (fun k => w.heap.size ≤ k) w w4 := ((((Fr.of_below HB.out).alloc _).alloc _).alloc _).trans HO.out.2.1 (fun k hk h => by omega)
                 have hfr2 := fun o => (hfr.t (Fr.of_below HBL.out)).alloc o
                 have hread : Bags.Reading (bs s) (.inl (4, 0)) := by
                   unfold Bags.Reading
                   rw [HS.out]
                   exact .inl ⟨t, HGr.out, by rw [hdt]; rfl⟩
                 exact ⟨rfl, ((hfr2 _).below (Nat.le_refl _) (fun _ h => h)).alloc (hfr2 _).size _, .inl ⟨4, 0, _, rfl, (hfr2 _).size, Blk.made _ _ _, hread⟩⟩)
          · have hq := HO.out.2.2.1.later hbl
            have d0 := hq.cell 0
            simp at d0
            have hn : ¬ (k : Int) < (ws.length : Int) + 1 := by omega
            clear hbl hdeep hq
            go_wp2_with fail
            go_ret
            have hd0 : Bags.deepFrom 0 ws = false := by rw [HD.out, List.drop_of_length_le (by omega)]; rfl
            have hfr : Fr (fun k => w.heap.size ≤ k) w w4 := ((((Fr.of_below HB.out).alloc _).alloc _).alloc _).trans HO.out.2.1 (fun k hk h => by omega)
            refine ⟨(hfr.t (Fr.of_below HBL.out)).below (Nat.le_refl _) (fun _ h => h), .inr ⟨t, _, rfl, HO.out.2.2.2.fr (Fr.of_below (S := fun _ => False) HBL.out) (fun _ h => h.elim) (by omega), ?_⟩⟩
            unfold Bags.Reading
            rw [HS.out]
            exact .inl ⟨t, HGr.out, by rw [hd0]; rfl⟩
      · have hread : Bags.Reading (bs s) (.inl (3, 0)) := by
          unfold Bags.Reading
          rw [HS.out]
          refine .inr ⟨fun t' hg => ?_, rfl⟩
          have h1 := Bags.P.uniq HP.out ((Bags.query_iff _ _).2 hg)
          simp only [Option.some.injEq, Prod.mk.injEq] at h1
          rw [h1.2] at hend
          exact hend rfl
        have HT0 := Lib.hid (hfail (fun W' hb => pc_more hC (by omega) HM.out (Nat.le_refl _) (hb1.below hb (hb1.lt)) (hb2.below hb (hb2.lt)) (by omega) (by omega) (by omega) (by omega) (hR3.below hb) hj hpar hend) hread)
        clear hfail hb1 hb2 hR3
        refine HT0.out.mono ?_
        rintro e w4 ⟨rfl, hG⟩
        have HG := Lib.hid hG
        clear hG
        go_wp2_with fail
        refine (fault_any _ _ _).mono ?_
        rintro e w5 ⟨rfl, rfl⟩
        have hsz4 := HG.out.size
        exact ⟨rfl, (HG.out.below (Nat.le_refl _) (fun _ h => h)).alloc hsz4 _, .inl ⟨3, 0, _, rfl, hsz4, Blk.made _ _ _, hread⟩⟩
end Go.Proofs.YtoephflcjllaaaaGreatDoor
