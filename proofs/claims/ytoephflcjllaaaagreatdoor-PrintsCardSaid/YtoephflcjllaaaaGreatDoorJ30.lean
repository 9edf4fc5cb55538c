/- Walk: a table's row is added. -/
import Derived.Test.YtoephflcjllaaaaGreatDoorJ29
import Derived.WalkMore
namespace Bags
theorem rowOK_no {l : List Str} {kinds : List Bool} {j : Nat} (h1 : j < l.length) (h2 : j < kinds.length) (h : valOK l[j] kinds[j] = false) : rowOK l kinds = false := by
  unfold rowOK
  rw [Bool.and_eq_false_iff]
  right
  rw [Bool.eq_false_iff]
  intro ha
  rw [List.all_eq_true] at ha
  have hm : (l[j], kinds[j]) ∈ l.zip kinds := by
    have : (l.zip kinds)[j]'(by simp; omega) = (l[j], kinds[j]) := List.getElem_zip
    rw [← this]; exact List.getElem_mem _
  have := ha _ hm
  rw [show (l[j], kinds[j]).1 = l[j] from rfl, show (l[j], kinds[j]).2 = kinds[j] from rfl, h] at this
  cases this
theorem rowOK_yes {l : List Str} {kinds : List Bool} (h1 : l.length = kinds.length) (h : ∀ j (h1 : j < l.length) (h2 : j < kinds.length), valOK l[j] kinds[j] = true) : rowOK l kinds = true := by
  unfold rowOK
  rw [decide_eq_true h1, Bool.true_and, List.all_eq_true]
  intro p hp
  obtain ⟨j, hj, rfl⟩ := List.getElem_of_mem hp
  have hj2 : j < l.length ∧ j < kinds.length := by simp at hj; omega
  rw [List.getElem_zip]
  exact h j hj2.1 hj2.2
end Bags
namespace Go.Proofs.YtoephflcjllaaaaGreatDoor
open Go.RowKit Go.Maps Go.WideMaps

/-- A table in memory, in blocks from B on. -/
def Tbl (w : World) (B T : Nat) (kinds : List Bool) (rows : Nat) : Prop := B ≤ T ∧ ∃ (vN vK vR : Value) (cn cr : List Value), Blk w T 113 #[vN, vK, vR] ∧ w.ownsRow B 9 1 vN kinds.length cn ∧ w.ownsRow B 115 1 vK kinds.length (kinds.map kindV) ∧ w.ownsRow B 118 1 vR rows cr
/-- A block of cells of type t. -/
def HasTy (w : World) (k t : Nat) : Prop := ∃ cs fr, w.heap[k]? = some (.cells cs t fr)
/-- What the adding of a row may turn. -/
def TblS (w : World) (k : Nat) : Prop := HasTy w k 113 ∨ HasTy w k 118
theorem elem_rows : Elem Tryz.prog 111 118 1 24 := ⟨Tryz.underlying111, by kernel_rfl, by decide⟩
theorem elem_vals : Elem Tryz.prog 118 120 1 16 := ⟨Tryz.underlying118, by kernel_rfl, by decide⟩
theorem HasTy.own {w : World} {base : Nat} {e : TypeId} {size n : Nat} {v : Value} {xs : List Value} (h : w.ownsRow base e size v n xs) {g : Nat} (hg : v.ownBlock = some g) : HasTy w g e := by
  obtain ⟨_, h2⟩ := h
  rcases h2 with ⟨rfl, _⟩ | ⟨g', cap, cur, rfl, h3, h4, _⟩
  · simp [Value.ownBlock] at hg
  · simp [Value.ownBlock] at hg; subst hg; exact ⟨_, _, h4⟩
theorem HasTy.blk {w : World} {g : Nat} {t : TypeId} {cs : Array Value} (h : Blk w g t cs) : HasTy w g t := ⟨_, _, h⟩
theorem HasTy.ne {w : World} {g t t' : Nat} {cs : Array Value} (h : Blk w g t cs) (hne : t ≠ t') : ¬ HasTy w g t' := by
  rintro ⟨cs', fr, h'⟩
  unfold Blk at h
  rw [h] at h'
  injection h' with h'
  injection h' with _ h'
  exact hne h'
theorem blk_not {w : World} {g t : Nat} {cs : Array Value} (h : Blk w g t cs) (h1 : t ≠ 113) (h2 : t ≠ 118) : ¬ TblS w g := by
  rintro (h' | h')
  · exact HasTy.ne h h1 h'
  · exact HasTy.ne h h2 h'

/-- What add answers. -/
def AddPost (l : List Bags.Str) (B T : Nat) (kinds : List Bool) (rows : Nat) (w : World) (e : Ending) (w' : World) : Prop :=
  Below B w w' ∧ Fr (TblS w) w w' ∧ ∃ ok, e = .returned (.bool ok) ∧ ok = (decide (rows ≠ 12) && Bags.rowOK (l.drop 1) kinds) ∧ (ok = true → Tbl w' B T kinds (rows + 1))

set_option maxRecDepth 100000 in
set_option maxHeartbeats 8000000 in
theorem add_prog (hP : ParseSaid) (l : List Bags.Str) (v : Value) (w : World) (base B T : Nat) (kinds : List Bool) (rows : Nat) (h0 : 0 < l.length) (hr : w.ownsRow base 9 1 v l.length (l.map strV)) (hl : ∀ p ∈ l, p ≠ [] ∧ p.length ≤ 4000)
    (hll : l.length ≤ 4001) (hB : B ≤ w.heap.size) (hT : Tbl w B T kinds rows) (hrows : rows ≤ 12) (hk1 : 1 ≤ kinds.length) (hk7 : kinds.length ≤ 7) (hv : Vars w) :
    Calls Tryz.prog 30 #[.pointer (some ⟨T, 0, none⟩), v] w (AddPost l B T kinds rows w) := by
  obtain ⟨g, cap, rfl, hcap1, hcap2, hg, hc⟩ := row_get hr h0
  unfold maxLen at hcap2
  obtain ⟨hBT, vN, vK, vR, cn, cr, hbT, hoN, hoK, hoR⟩ := hT
  obtain ⟨bN, pN, rfl⟩ := own_slice hoN
  obtain ⟨bR, pR, rfl⟩ := own_slice hoR
  have t0 := hbT.cell 0
  have t1 := hbT.cell 1
  have t2 := hbT.cell 2
  have hTlt := hbT.lt
  simp at t0 t1 t2
  have HC := Lib.hid hc
  have HBT := Lib.hid hbT
  have HON := Lib.hid hoN
  have HOK := Lib.hid hoK
  have HOR := Lib.hid hoR
  by_cases hlen : (l.length : Int) = (kinds.length : Int) + 1
  · by_cases h12 : rows = 12
    · subst h12
      have hlenb : ((l.length : Int) != (kinds.length : Int) + 1) = false := by simpa using hlen
      clear hbT hoN hoK hoR hc hr
      go_enter Tryz.func30, Tryz.ntmps30
      go_wp2_with fail
      all_goals
        go_ret
        exact ⟨Below.refl _ _, Fr.refl _ _, false, rfl, by simp, fun h => by cases h⟩
    · have h12' : ((rows : Int) == 12) = false := by simp; omega
      have hlenb : ((l.length : Int) != (kinds.length : Int) + 1) = false := by simpa using hlen
      have hcap1' : ¬ cap = 1 := by omega
      have hcap1'' : (1 : Int) ≤ (l.length : Int) := by omega
      obtain ⟨bK, pK, rfl⟩ := own_slice hoK
      clear hbT hoN hoR hc hr
      go_enter Tryz.func30, Tryz.ntmps30
      go_wp2_with fail
      have hoK' := HOK.out
      obtain ⟨baK, capK, hKs, hK1, hK2, hKc⟩ := own_form hoK'
      obtain ⟨gK, hgK, hgK2, _, hKcell⟩ := hKc (by omega)
      injection hKs with hb1 _ hb2
      rw [hgK] at hb1
      subst hb1 hb2
      unfold maxLen at hK2
      go_loopw [5, 30] (fun r i wr => ∃ (k : Nat) (xs : List Value), i = .int .i64 k ∧ k ≤ kinds.length ∧ wr.ownsRow w.heap.size 120 1 r k xs ∧ (∀ j (h1 : j < k) (h2 : j + 1 < l.length) (h3 : j < kinds.length), Bags.valOK l[j + 1] kinds[j] = true) ∧ Below w.heap.size w wr) (fun _ i _ => kinds.length - (intOf i).toNat)
      case atStart => exact ⟨0, [], rfl, by omega, ⟨rfl, .inl ⟨rfl, rfl⟩⟩, fun j h => absurd h (by omega), Below.refl _ _⟩
      case round =>
        rename_i wr
        obtain ⟨k, xs, rfl, hk, hoX, hall, hbl⟩ := hrel
        have HBL := Lib.hid hbl
        have HALL := Lib.hid hall
        have hsz := hbl.size
        obtain ⟨bX, pX, rfl⟩ := own_slice hoX
        have HOX := Lib.hid hoX
        have e0 := (hbl.cell (p := ⟨T, 0, none⟩) hTlt).trans t0
        have e1 := (hbl.cell (p := ⟨T, 1, none⟩) hTlt).trans t1
        have e2 := (hbl.cell (p := ⟨T, 2, none⟩) hTlt).trans t2
        by_cases hlt : k < kinds.length
        · have hlt' : (k : Int) < (kinds.length : Int) := by omega
          have hlt2 : (k : Int) < (l.length : Int) - 1 := by omega
          have hk1' : k + 1 < l.length := by omega
          have d1 : wr.cell? ⟨g, 1 + k, none⟩ = some (.string (tx l[k + 1])) := by rw [show 1 + k = k + 1 by omega]; exact (hbl.cell (p := ⟨g, k + 1, none⟩) hg).trans (HC.out (k + 1) hk1')
          have d2 := (hbl.cell (p := ⟨gK, k, none⟩) hgK2).trans (hKcell k hlt)
          have hx : (kinds.map kindV)[k]? = some (kindV kinds[k]) := by simp [hlt]
          rw [hx] at d2
          unfold kindV at d2
          have hp := hl l[k + 1] (List.getElem_mem _)
          have hval := value_prog hP (tx l[k + 1]) kinds[k] wr (by rw [tx_size]; omega) (by rw [tx_size]; exact List.length_pos_iff.2 hp.1) (hv.below hbl hv.size)
          rw [bs_tx] at hval
          have hVB : Bags.valOK l[k + 1] kinds[k] = Bags.valOK l[k + 1] kinds[k] := rfl
          have HALL2 := Lib.hid (fun (h : Bags.valOK l[k + 1] kinds[k] = true) => show ∀ j (h1 : j < k + 1) (h2 : j + 1 < l.length) (h3 : j < kinds.length), Bags.valOK l[j + 1] kinds[j] = true from fun j h1 h2 h3 => by
            rcases Nat.lt_or_ge j k with h4 | h4
            · exact HALL.out j h4 h2 h3
            · obtain rfl : j = k := by omega
              exact h)
          have HNO := Lib.hid (fun (h : Bags.valOK l[k + 1] kinds[k] = false) => Bags.rowOK_no (l := l.drop 1) (kinds := kinds) (j := k) (by rw [List.length_drop]; omega) hlt (by rw [List.getElem_drop]; simpa [Nat.add_comm] using h))
          generalize Bags.valOK l[k + 1] kinds[k] = VB at *
          generalize kinds[k] = tk at *
          clear hoX hall hbl hx hVB
          have HV := Lib.hid hval
          clear hval
          cases tk
          all_goals
            cases VB
            · go_wp2_with fail
              refine HV.out.mono ?_
              rintro e w2 ⟨⟨tp, vp, rfl⟩, hb⟩
              have HB2 := Lib.hid (HBL.out.trans (hb.mono hsz))
              clear hb
              go_wp2_with fail
              go_ret
              exact ⟨HB2.out.mono hB, Fr.of_below HB2.out, false, rfl, by rw [HNO.out (by simp)]; simp, fun h => by cases h⟩
            · go_wp2_with fail
              refine HV.out.mono ?_
              rintro e w2 ⟨⟨tp, vp, rfl⟩, hb⟩
              have HB2 := Lib.hid (HBL.out.trans (hb.mono hsz))
              have hoX2 := own_later HOX.out hb
              have hsz2 := HB2.out.size
              clear hb
              go_wp2_with (at_builtin; refine wpList_append_one rfl _ _ rfl (base := w.heap.size) elem_vals rfl hoX2 (cs := #[.iface tp vp]) rfl rfl rfl (by simp [Value.oneCell']) (by unfold maxLen; omega) (by omega) hsz2 ?_; intro b' w3 hown3 hb3 _ hz3)
              exact ⟨⟨k + 1, _, by simp, by omega, hown3, HALL2.out (by simp), HB2.out.trans hb3⟩, by simp [intOf]; omega⟩
        · have hlt' : ¬ (k : Int) < (l.length : Int) - 1 := by omega
          have hke : k = kinds.length := by omega
          subst hke
          have hyes : Bags.rowOK (l.drop 1) kinds = true := Bags.rowOK_yes (by rw [List.length_drop]; omega) (fun j h1 h2 => by
            rw [List.getElem_drop]
            have := HALL.out j (by omega) (by omega) h2
            simpa [Nat.add_comm] using this)
          have HY := Lib.hid hyes
          have HR2 := Lib.hid (own_later HOR.out hbl)
          have HT2 := Lib.hid (HBT.out.later hbl)
          clear hoX hall hbl hyes
          go_wp2_with (at_builtin; refine wpList_append_one rfl _ _ rfl (base := B) elem_rows rfl HR2.out (cs := #[.slice bX kinds.length pX]) rfl rfl rfl (by simp [Value.oneCell']) (by unfold maxLen; omega) (by omega) (by omega) ?_; intro v5 w5 hown5 hb5 hk5 hz5; obtain ⟨bR5, pR5, rfl⟩ := own_slice hown5; have hT5 : Blk w5 T _ _ := (hk5 _ HT2.out.lt (Ne.symm (own_ne_blk HR2.out HT2.out (by decide)))).trans HT2.out; have HT5 := Lib.hid hT5; have HO5 := Lib.hid hown5; have HK5 := Lib.hid (And.intro hk5 (And.intro hb5 hz5)); have u3 := hT5.cell 2; have u4 := hT5.free 2; simp at u3; clear hT5 hown5 hb5 hk5 hz5)
          go_ret
          refine ⟨below_set (HBL.out.mono hB |>.trans HK5.out.2.1) (p := ⟨T, 2, none⟩) hBT _, ?_, true, rfl, by rw [HY.out]; simpa using h12, fun _ => ⟨hBT, .slice bN kinds.length pN, .slice (some ⟨gK, 0, none⟩) kinds.length pK, .slice bR5 (rows + 1) pR5, cn, _, by simpa using HT5.out.put 2 (.slice bR5 (rows + 1) pR5), ?_, ?_, own_set HO5.out (p := ⟨T, 2, none⟩) (own_ne_blk HO5.out HT5.out (by decide)) _⟩⟩
          · have f1 : Fr (TblS w) w wr := Fr.of_below HBL.out
            have f2 : Fr (TblS w) w w5 := ⟨HK5.out.2.1.os.trans f1.os, HK5.out.2.1.tape.trans f1.tape, HK5.out.2.1.output.trans f1.output, Nat.le_trans f1.size HK5.out.2.2, fun k hk hn => (HK5.out.1 k (by omega) (fun e => hn (.inr (HasTy.own HOR.out e.symm)))).trans (f1.keep k hk hn)⟩
            exact f2.set (p := ⟨T, 2, none⟩) (.inr (.inl (HasTy.blk HBT.out))) _
          · exact own_set (own_keep (own_later HON.out HBL.out) HK5.out.1 (fun g h e => own_ne_own HON.out HOR.out (by decide) g h e.symm)) (p := ⟨T, 2, none⟩) (own_ne_blk HON.out HBT.out (by decide)) _
          · exact own_set (own_keep (own_later HOK.out HBL.out) HK5.out.1 (fun g h e => own_ne_own HOK.out HOR.out (by decide) g h e.symm)) (p := ⟨T, 2, none⟩) (own_ne_blk HOK.out HBT.out (by decide)) _
  · have hlen' : ((l.length : Int) != (kinds.length : Int) + 1) = true := by simpa using hlen
    have hno : Bags.rowOK (l.drop 1) kinds = false := by
      unfold Bags.rowOK
      rw [decide_eq_false (by rw [List.length_drop]; omega)]; rfl
    clear hlen
    clear hbT hoN hoK hoR hc hr
    go_enter Tryz.func30, Tryz.ntmps30
    go_wp2_with fail
    all_goals
      go_ret
      exact ⟨Below.refl _ _, Fr.refl _ _, false, rfl, by rw [hno]; simp, fun h => by cases h⟩
end Go.Proofs.YtoephflcjllaaaaGreatDoor
/- Walk: Open. -/
namespace Go.Proofs.YtoephflcjllaaaaGreatDoor
open Go.RowKit Go.Maps Go.WideMaps

/-- strings.Split at line ends, in worlds of which G holds. -/
structure SplitSaid (G : World → Prop) : Prop where
  run : ∀ (s : ByteArray) (w : World), G w → s.size ≤ 4000 → Calls Tryz.prog 27 #[.string s, .string ⟨#[10]⟩] w fun e w' => Below w.heap.size w w' ∧ ∃ v, e = .returned v ∧
    w'.ownsRow w.heap.size 9 1 v (Bags.linesOf (bs s)).length ((Bags.linesOf (bs s)).map strV)
  keep : ∀ (w : World) (o : Obj), G w → G (w.alloc o)

/-- What Open answers. -/
def OpenPost (s : ByteArray) (w : World) (e : Ending) (w' : World) : Prop :=
  Below w.heap.size w w' ∧ ((Bags.dataOf (bs s) = none ∧ ∃ d, e = .returned (.tuple #[.pointer (some d), .nilIface])) ∨
    ∃ (n b : Nat), Bags.dataOf (bs s) = some n ∧ e = .returned (.tuple #[.pointer none, .iface 72 (.pointer (some ⟨b, 0, none⟩))]) ∧ w.heap.size ≤ b ∧ Blk w' b 75 #[.int .i64 1, .int .i64 n])

/-- The table that is read at last, in slot 5. -/
def LastIs (w : World) (B : Nat) (t : Bags.Tabs) (v : Value) : Prop :=
  (t.names = [] ∧ v = .pointer none) ∨ ∃ T, v = .pointer (some ⟨T, 0, none⟩) ∧ t.names ≠ [] ∧ Tbl w B T t.kinds t.rows ∧ 1 ≤ t.kinds.length ∧ t.kinds.length ≤ 7 ∧ t.rows ≤ 12

theorem Tbl.later {w w' : World} {B T : Nat} {kinds : List Bool} {rows : Nat} (h : Tbl w B T kinds rows) (hb : Below w.heap.size w w') : Tbl w' B T kinds rows := by
  obtain ⟨h1, vN, vK, vR, cn, cr, h2, h3, h4, h5⟩ := h
  exact ⟨h1, vN, vK, vR, cn, cr, h2.later hb, own_later h3 hb, own_later h4 hb, own_later h5 hb⟩
theorem LastIs.later {w w' : World} {B : Nat} {t : Bags.Tabs} {v : Value} (h : LastIs w B t v) (hb : Below w.heap.size w w') : LastIs w' B t v := by
  rcases h with h | ⟨T, h1, h2, h3, h4⟩
  · exact .inl h
  · exact .inr ⟨T, h1, h2, h3.later hb, h4⟩
theorem MapIs.later {w w' : World} {R : Value → Option (DU × List MemPlace)} {M : Nat} {names : List Bags.Str} {one : DU} (h : MapIs w R M names one) (hb : Below w.heap.size w w') : MapIs w' R M names one := h.keep (hb.block M h.lt)
theorem MapIs.notTbl {w : World} {R : Value → Option (DU × List MemPlace)} {M : Nat} {names : List Bags.Str} {one : DU} (h : MapIs w R M names one) : ¬ TblS w M := by
  obtain ⟨D, ⟨es, clock, hm, _⟩, _⟩ := h
  rintro (⟨cs, fr, h'⟩ | ⟨cs, fr, h'⟩) <;> (rw [hm] at h'; cases h')
theorem own_notTbl {w w' : World} {base : Nat} {e : TypeId} {size n : Nat} {v : Value} {xs : List Value} (h : w.ownsRow base e size v n xs) (hf : Fr (TblS w) w w') (h1 : e ≠ 113) (h2 : e ≠ 118) : w'.ownsRow base e size v n xs :=
  ownsRow_fr h hf (fun k hk e' => by
    obtain ⟨cs, fr, hh⟩ := HasTy.own h e'
    rcases hk with ⟨cs', fr', hk⟩ | ⟨cs', fr', hk⟩ <;> (rw [hh] at hk; injection hk with hk; injection hk with _ hk; first | exact h1 hk | exact h2 hk)) (fun _ _ h => h)
theorem own_base {w : World} {base base' : Nat} {e : TypeId} {size n : Nat} {v : Value} {xs : List Value} (h : w.ownsRow base e size v n xs) (hb : base' ≤ base) : w.ownsRow base' e size v n xs := by
  obtain ⟨h1, h2⟩ := h
  refine ⟨h1, ?_⟩
  rcases h2 with h2 | ⟨g, cap, cur, rfl, h3, h4⟩
  · exact .inl h2
  · exact .inr ⟨g, cap, cur, rfl, Nat.le_trans hb h3, h4⟩
theorem below_drewN {w0 w1 : World} {B : Nat} (h : Below B w0 w1) (n : Nat) : Below B w0 (w1.drewN n) := h.trans ⟨rfl, rfl, rfl, Nat.le_refl _, fun _ _ => rfl⟩
theorem pieces_bound {s : Bags.Str} {l : List Bags.Str} (h : Bags.pieces s = some l) : (∀ p ∈ l, p ≠ [] ∧ p.length ≤ s.length) ∧ l.length ≤ s.length := Bags.pieces_text _ _ _ h
theorem line_none {t : Bags.Tabs} {s : Bags.Str} {l : List Bags.Str} (h : Bags.pieces s = some l) (h0 : 0 < l.length) (h1 : l[0] ≠ Bags.str "table") (h2 : l[0] ≠ Bags.str "row") : Bags.lineOne t s = none := by
  cases l with
  | nil => cases h0
  | cons a l' =>
    have h1' : ¬ a = Bags.str "table" := h1
    have h2' : ¬ a = Bags.str "row" := h2
    unfold Bags.lineOne; rw [h]; dsimp only; rw [if_neg h1', if_neg (fun h => h2' h.1)]
theorem line_head {t : Bags.Tabs} {s : Bags.Str} {l : List Bags.Str} (h : Bags.pieces s = some l) (h0 : 0 < l.length) (h1 : l[0] = Bags.str "table") : Bags.lineOne t s = match Bags.headOf l with
    | none => none
    | some (n, c) => if t.names.contains n || t.names.length == 8 then none else some ⟨t.names ++ [n], c, 0⟩ := by
  cases l with
  | nil => cases h0
  | cons a l' =>
    have h1' : a = Bags.str "table" := h1
    unfold Bags.lineOne; rw [h]; dsimp only; rw [if_pos h1']
    rfl
theorem line_row {t : Bags.Tabs} {s : Bags.Str} {l : List Bags.Str} (h : Bags.pieces s = some l) (h0 : 0 < l.length) (h1 : l[0] = Bags.str "row") : Bags.lineOne t s = if t.names ≠ [] ∧ t.rows ≠ 12 ∧ Bags.rowOK (l.drop 1) t.kinds = true then some { t with rows := t.rows + 1 } else none := by
  cases l with
  | nil => cases h0
  | cons a l' =>
    have h1' : a = Bags.str "row" := h1
    unfold Bags.lineOne; rw [h]; dsimp only
    rw [if_neg (by rw [h1']; decide)]
    simp only [h1', true_and, List.drop_succ_cons, List.drop_zero]
theorem head_len {l : List Bags.Str} {y : Bags.Str × List Bool} (h : Bags.headOf l = some y) : 4 ≤ l.length := by
  unfold Bags.headOf at h
  by_cases hb : l.length < 4 ∨ l.length % 2 = 1 ∨ 14 < l.length
  · rw [if_pos hb] at h; cases h
  · omega
theorem cols_len : ∀ (l seen : List Bags.Str) (c : List Bool), Bags.colsOf seen l = some c → l.length = 2 * c.length
  | [], seen, c, h => by simp [Bags.colsOf] at h; subst h; rfl
  | [_], seen, c, h => by simp [Bags.colsOf] at h
  | a :: k :: r, seen, c, h => by
    rw [Bags.colsOf] at h
    split at h
    · obtain ⟨c', h1, rfl⟩ := Option.map_eq_some_iff.1 h
      have := cols_len r _ c' h1
      simp; omega
    · cases h
theorem head_cols {l : List Bags.Str} {n : Bags.Str} {c : List Bool} (h : Bags.headOf l = some (n, c)) : 1 ≤ c.length ∧ c.length ≤ 6 := by
  unfold Bags.headOf at h
  by_cases hb : l.length < 4 ∨ l.length % 2 = 1 ∨ 14 < l.length
  · rw [if_pos hb] at h; cases h
  · rw [if_neg hb] at h
    match l, hb with
    | [], hb => exact absurd (by simp) hb
    | [_], hb => exact absurd (by simp) hb
    | _ :: m :: r, hb =>
      simp only at h
      split at h
      · obtain ⟨c', h1, h2⟩ := Option.map_eq_some_iff.1 h
        injection h2 with _ h2
        subst h2
        have := cols_len r _ c' h1
        simp at hb
        omega
      · cases h
theorem str_table : Bags.str "table" = [116, 97, 98, 108, 101] := by decide
theorem str_row : Bags.str "row" = [114, 111, 119] := by decide

set_option maxRecDepth 100000 in
set_option maxHeartbeats 8000000 in
theorem open_prog {G : World → Prop} (hS : SplitSaid G) (hP : ParseSaid) (s : ByteArray) (w : World) (hs : s.size ≤ 8192) (hG : G w) (hv : Vars w) :
    Calls Tryz.prog 11 #[.string s] w (OpenPost s w) := by
  have hmk := fun W => run_makeMap (P := Tryz.prog) 69 W
  by_cases hlong : 4000 < s.size
  · have hlong' : (4000 : Int) < (s.size : Int) := by omega
    have HD := Lib.hid (show Bags.dataOf (bs s) = some 0 by unfold Bags.dataOf; rw [if_pos (by rw [bs_length]; exact hlong)])
    go_enter Tryz.func11, Tryz.ntmps11
    go_wp2_with fail
    go_step3
    go_wp2_with fail
    try rw [Exit.noGoto_ret]
    go_ret2
    exact ⟨(((Fr.refl (fun _ => False) w).alloc _).alloc _).alloc _ |>.below (Nat.le_refl _) (fun _ h => h.elim), .inr ⟨0, _, HD.out, rfl, by first | omega | (simp; omega), Blk.made' (by simp) _ _⟩⟩
  · have hlong' : ¬ (4000 : Int) < (s.size : Int) := by omega
    have hdd : Bags.dataOf (bs s) = Bags.dataFrom 0 ⟨[], [], 0⟩ (Bags.linesOf (bs s)) := by unfold Bags.dataOf; rw [if_neg (by rw [bs_length]; exact hlong)]
    have HSP := Lib.hid (fun o o2 => hS.run s ((w.alloc o).alloc o2) (hS.keep _ _ (hS.keep _ _ hG)) (by omega))
    have HL := Lib.hid (And.intro (Bags.linesOf_length (bs s)) (Bags.linesOf_text (bs s)))
    have hsl := HL.out
    rw [bs_length] at hsl
    have HLT := Lib.hid hsl.2
    have hll := hsl.1
    generalize Bags.linesOf (bs s) = ls at *
    have HDD := Lib.hid hdd
    clear hdd hsl
    go_enter Tryz.func11, Tryz.ntmps11
    go_wp2_with fail
    go_step3
    go_wp2_with fail
    go_step3
    go_wp2_with fail
    refine (HSP.out _ _).mono ?_
    rintro e w2 ⟨hb2, v, rfl, hown⟩
    obtain ⟨ba, cap, rfl, hlc, hcm, hxx⟩ := own_form hown
    clear hxx
    unfold maxLen at hcm
    have HB2 := Lib.hid hb2
    have HOWN := Lib.hid hown
    clear hb2 hown
    go_wp2_with fail
    go_loopw [5, 24] (fun lv i wr => ∃ (k : Nat) (t : Bags.Tabs), i = .int .i64 k ∧ k ≤ ls.length ∧ Bags.dataFrom 0 ⟨[], [], 0⟩ ls = Bags.dataFrom k t (ls.drop k) ∧ MapIs wr ptrElem w.heap.size t.names onePtr ∧
        Blk wr (w.heap.size + 1) 71 #[.map (some w.heap.size)] ∧ wr.ownsRow (w.heap.size + 2) 9 1 (.slice ba ls.length cap) ls.length (ls.map strV) ∧ LastIs wr w.heap.size t lv ∧ t.names.length ≤ 8 ∧ Below w.heap.size w wr) (fun _ i _ => ls.length - (intOf i).toNat)
    case atStart =>
      refine ⟨0, ⟨[], [], 0⟩, rfl, by omega, rfl, ?_, ?_, by simpa using HOWN.out, .inl ⟨rfl, rfl⟩, by simp, ?_⟩
      · exact ((MapIs.made w ptrElem onePtr).alloc _).fr (Fr.of_below (S := fun _ => False) HB2.out) (fun h => h)
      · exact (Blk.made' (by simp) 71 #[.map (some w.heap.size)]).later HB2.out
      · exact (((Below.refl _ _).alloc (Nat.le_refl _) _).alloc (by simp) _).trans (HB2.out.mono (by simp; omega))
    case round =>
      rename_i wr
      obtain ⟨k, t, rfl, hk, hdf, hM, hD, hoL, hlast, hn8, hbl⟩ := hrel
      have HDF := Lib.hid hdf
      have HBL := Lib.hid hbl
      have hsz := hbl.size
      by_cases hlt : k < ls.length
      · have hlt' : (k : Int) < (ls.length : Int) := by omega
        obtain ⟨g, cap', hsl, _, _, hgl, hcl⟩ := row_get hoL (by omega)
        injection hsl with hb1 _ hb2
        subst hb1 hb2
        have c0 := hcl k hlt
        have htx := HLT.out ls[k] (List.getElem_mem _)
        have hs4 : s.size ≤ 4000 := by omega
        have hlk4 : ls[k].length ≤ 4000 := Nat.le_trans htx hs4
        have hpp := pieces_prog (tx ls[k]) wr (by rw [tx_size]; omega)
        unfold PiecesPost at hpp
        rw [bs_tx] at hpp
        have HPP := Lib.hid hpp
        have HST := Lib.hid (show Bags.dataFrom k t (ls.drop k) = match Bags.lineOne t ls[k] with | none => some (k + 1) | some t' => Bags.dataFrom (k + 1) t' (ls.drop (k + 1)) by
          rw [List.drop_eq_getElem_cons hlt]; rfl)
        have HM := Lib.hid hM
        have HDB := Lib.hid hD
        have HOL := Lib.hid hoL
        have HLA := Lib.hid hlast
        clear hM hD hoL hlast hbl hdf hpp hcl
        go_wp2_with fail
        refine HPP.out.mono ?_
        rintro e w3 ⟨hb3, h3⟩
        have HB3 := Lib.hid (HBL.out.trans (hb3.mono hsz))
        have HB3' := Lib.hid hb3
        clear hb3
        rcases h3 with ⟨hpn, v3, rfl⟩ | ⟨l, v3, hpl, rfl, hol⟩
        · have hno : Bags.lineOne t ls[k] = none := by unfold Bags.lineOne; rw [hpn]
          have HNO := Lib.hid hno
          clear hno hpn
          go_wp2_with fail
          try rw [Exit.noGoto_ret]
          go_ret2
          have hz3 := HB3.out.size
          exact ⟨HB3.out.alloc hz3 _, .inr ⟨k + 1, _, by rw [HDD.out, HDF.out, HST.out, HNO.out], rfl, hz3, by simpa using Blk.made w3 75 #[.int .i64 1, .int .i64 (k + 1 : Nat)]⟩⟩
        · have hpb := pieces_bound hpl
          have hM3 := HM.out.later HB3'.out
          have hD3 := HDB.out.later HB3'.out
          have hL3 := own_later HOL.out HB3'.out
          have hLA3 := HLA.out.later HB3'.out
          have hsz3 := HB3.out.size
          by_cases hnil : l.length = 0
          · have hl0 : l = [] := List.eq_nil_of_length_eq_zero hnil
            have hli : Bags.lineOne t ls[k] = some t := by unfold Bags.lineOne; rw [hpl, hl0]
            have HLI := Lib.hid hli
            have HF := Lib.hid (And.intro hM3 (And.intro hD3 (And.intro hL3 hLA3)))
            obtain ⟨b3, p3, rfl⟩ := own_slice hol
            have hz0 : (l.length : Int) = 0 := by omega
            clear hM3 hD3 hL3 hLA3 hli hpl hol hl0 hnil
            go_wp2_with fail
            exact ⟨⟨k + 1, t, by simp, by omega, by rw [HDF.out, HST.out, HLI.out], HF.out.1, HF.out.2.1, HF.out.2.2.1, HF.out.2.2.2, hn8, HB3.out⟩, by simp [intOf]; omega⟩
          · have h0 : 0 < l.length := by omega
            obtain ⟨g3, p3, rfl, hc31, hc32, hg3, hc3⟩ := row_get hol h0
            unfold maxLen at hc32
            have d0 := hc3 0 h0
            have hlen0 : (1 : Int) ≤ (l.length : Int) := by omega
            have hne0 : ((l.length : Int) == 0) = false := beq_eq_false_iff_ne.2 (by omega)
            have hll3 := hpb.2
            have HPB := Lib.hid (show ∀ p ∈ l, p ≠ [] ∧ p.length ≤ 4000 from fun p hp => ⟨(hpb.1 p hp).1, Nat.le_trans (hpb.1 p hp).2 hlk4⟩)
            have HF := Lib.hid (And.intro hM3 (And.intro hD3 (And.intro hL3 hLA3)))
            have HOL3 := Lib.hid hol
            have HC3 := Lib.hid hc3
            have HPL := Lib.hid hpl
            have hlli : (l.length : Int) ≤ 4000 := by have := Nat.le_trans hll3 hlk4; omega
            clear hM3 hD3 hL3 hLA3 hol hpl hpb hc3 hnil
            by_cases hta : l[0] = Bags.str "table"
            · have hw1 : ((tx l[0]).toList == [116, 97, 98, 108, 101]) = true := by rw [tx_toList, hta, str_table]; rfl
              have HLH := Lib.hid (line_head (t := t) HPL.out h0 hta)
              have HHD := Lib.hid (head_prog l _ w3 _ HOL3.out (fun p hp => (HPB.out p hp).2))
              clear hta
              go_wp2_with fail
              refine HHD.out.mono ?_
              rintro e w4 ⟨hb4, h4⟩
              have HB4 := Lib.hid (HB3.out.trans (hb4.mono hsz3))
              have HB4' := Lib.hid hb4
              clear hb4
              rcases h4 with ⟨hh, rfl⟩ | ⟨kinds, T, vN, vK, cn, hh, rfl, hT1, hT2, hT3, hT4⟩
              · have HNO := Lib.hid (show Bags.lineOne t ls[k] = none by rw [HLH.out, hh])
                clear hh
                go_wp2_with fail
                go_quiet (fail)
                go_wp2_with fail
                rename_i nq
                try rw [Exit.noGoto_ret]
                go_ret2
                have hzf := (below_drewN HB4.out nq).size
                exact ⟨(below_drewN HB4.out nq).alloc hzf _, .inr ⟨k + 1, _, by rw [HDD.out, HDF.out, HST.out, HNO.out], rfl, hzf, by simpa using Blk.made (World.drewN w4 nq) 75 #[.int .i64 1, .int .i64 (k + 1 : Nat)]⟩⟩
              · have hl4 := head_len hh
                obtain ⟨hkc1, hkc6⟩ := head_cols hh
                have hg1 : l.getD 1 [] = l[1] := by rw [List.getD_eq_getElem?_getD]; simp [show 1 < l.length by omega]
                rw [hg1] at hh
                have hlN := (HPB.out l[1] (List.getElem_mem _)).2
                have hM4 := HF.out.1.later HB4'.out
                have hD4 := HF.out.2.1.later HB4'.out
                have hL4 := own_later HF.out.2.2.1 HB4'.out
                have d1 := (HB4'.out.cell (p := ⟨g3, 1, none⟩) hg3).trans (HC3.out 1 (by omega))
                have hlen1 : (1 : Int) < (l.length : Int) := by omega
                obtain ⟨p, hp, hlk⟩ := hM4.look_all hlN
                have hlook := fun n => hlk (World.drewN w4 n) rfl
                have hlenm := fun n ty => (hM4.drewN n).len ty
                have e0 := hD4.cell 0
                simp at e0
                have HLI := Lib.hid (show Bags.lineOne t ls[k] = if t.names.contains l[1] || t.names.length == 8 then none else some ⟨t.names ++ [l[1]], kinds, 0⟩ by rw [HLH.out, hh])
                have HM4 := Lib.hid hM4
                have HD4 := Lib.hid hD4
                have HL4 := Lib.hid hL4
                have HT := Lib.hid (And.intro hT2 (And.intro hT3 hT4))
                have hsz4 := HB4.out.size
                have hn8' : (t.names.length : Int) ≤ 8 := by omega
                clear hh hlk hM4 hD4 hL4 hT2 hT3 hT4
                cases hct : t.names.contains l[1]
                · rw [hct] at hp
                  obtain rfl : p = none := by cases p <;> simp at hp ⊢
                  by_cases h8 : t.names.length = 8
                  · have h8' : ((t.names.length : Int) < 8) = False := by simp; omega
                    have h8d : decide ((t.names.length : Int) < 8) = false := by simp; omega
                    have HNO := Lib.hid (show Bags.lineOne t ls[k] = none by rw [HLI.out, hct, h8]; rfl)
                    clear hct h8 hp
                    go_wp2_with fail
                    go_quiet (fail)
                    go_wp2_with fail
                    rename_i nq
                    try rw [Exit.noGoto_ret]
                    go_ret2
                    have hzf := (below_drewN HB4.out nq).size
                    exact ⟨(below_drewN HB4.out nq).alloc hzf _, .inr ⟨k + 1, _, by rw [HDD.out, HDF.out, HST.out, HNO.out], rfl, hzf, by simpa using Blk.made (World.drewN w4 nq) 75 #[.int .i64 1, .int .i64 (k + 1 : Nat)]⟩⟩
                  · have h8d : decide ((t.names.length : Int) < 8) = true := by simp; omega
                    have h8' : (t.names.length : Int) < 8 := by omega
                    have HYS := Lib.hid (show Bags.lineOne t ls[k] = some ⟨t.names ++ [l[1]], kinds, 0⟩ by
                      rw [HLI.out, hct, show ((t.names.length == 8) : Bool) = false by simpa using h8]; rfl)
                    have HCT := Lib.hid hct
                    clear hct h8 hp
                    go_wp2_with fail
                    go_quiet (fail)
                    go_wp2_with fail
                    rename_i nq _ _
                    obtain ⟨D5, hown5, hnm5⟩ := HM4.out.drewN (nq + 1)
                    obtain ⟨w6, hrun, hown6, hg6⟩ := hown5.update keyed Tryz.underlying69 (by unfold maxLen; omega) (key_tx hlN) (d := onePtr) (ps := []) (val := .pointer (some ⟨T, 0, none⟩)) rfl
                    have HM6 := Lib.hid (show MapIs w6 ptrElem w.heap.size (t.names ++ [l[1]]) onePtr from ⟨_, by simpa using hown6, hnm5.put (hown5.tidy keyed) HCT.out⟩)
                    have HG6 := Lib.hid hg6
                    have HM5 := Lib.hid (HM4.out.drewN (nq + 1))
                    have e0' : (World.drewN w4 (nq + 1)).cell? ⟨w.heap.size + 1, 0, none⟩ = some (.map (some w.heap.size)) := e0
                    have d1' : (World.drewN w4 (nq + 1)).cell? ⟨g3, 1, none⟩ = some (.string (tx l[1])) := d1
                    clear hown5 hnm5 hown6 hg6 hlook hlenm
                    go_region
                    go_wp2_with fail
                    have hD6 : Blk w6 (w.heap.size + 1) _ _ := (HD4.out.drewN (nq + 1)).grown HG6.out (by simp)
                    have hL6 := own_grown (show (World.drewN w4 (nq + 1)).ownsRow _ _ _ _ _ _ from HL4.out) HG6.out (fun g' h e => HM5.out.ne_own (show (World.drewN w4 (nq + 1)).ownsRow _ _ _ _ _ _ from HL4.out) (by rw [h, ← e]))
                    have hb6 := below_grown (below_drewN HB4.out (nq + 1)) HG6.out (fun g' e => by injection e with e; omega) (by show w.heap.size ≤ w4.heap.size; omega)
                    have hTb : Tbl w6 w.heap.size T kinds 0 := by
                      obtain ⟨t2, t3, t4⟩ := HT.out
                      have u2 : Blk (World.drewN w4 (nq + 1)) T _ _ := t2
                      have u3 : (World.drewN w4 (nq + 1)).ownsRow _ _ _ _ _ _ := t3
                      have u4 : (World.drewN w4 (nq + 1)).ownsRow _ _ _ _ _ _ := t4
                      refine ⟨by omega, vN, vK, .slice none 0 0, cn, [], u2.grown HG6.out (fun e => HM5.out.ne_blk u2 (by injection e with e; exact e.symm)), own_base (own_grown u3 HG6.out (fun g' h e => HM5.out.ne_own u3 (by rw [h, ← e]))) hsz3, own_base (own_grown u4 HG6.out (fun g' h e => HM5.out.ne_own u4 (by rw [h, ← e]))) hsz3, ⟨rfl, .inl ⟨rfl, rfl⟩⟩⟩
                    exact ⟨⟨k + 1, ⟨t.names ++ [l[1]], kinds, 0⟩, by simp, by omega, by rw [HDF.out, HST.out, HYS.out], HM6.out, hD6, hL6, .inr ⟨T, rfl, by simp, hTb, hkc1, (show kinds.length ≤ 7 by omega), (show (0 : Nat) ≤ 12 by omega)⟩, (by simp; omega), hb6⟩, by simp [intOf]; omega⟩
                · rw [hct] at hp
                  obtain ⟨q, rfl⟩ := Option.isSome_iff_exists.1 hp
                  have HNO := Lib.hid (show Bags.lineOne t ls[k] = none by rw [HLI.out, hct]; rfl)
                  clear hct hp
                  go_wp2_with fail
                  go_quiet (fail)
                  go_wp2_with fail
                  rename_i nq
                  try rw [Exit.noGoto_ret]
                  go_ret2
                  have hzf := (below_drewN HB4.out nq).size
                  exact ⟨(below_drewN HB4.out nq).alloc hzf _, .inr ⟨k + 1, _, by rw [HDD.out, HDF.out, HST.out, HNO.out], rfl, hzf, by simpa using Blk.made (World.drewN w4 nq) 75 #[.int .i64 1, .int .i64 (k + 1 : Nat)]⟩⟩
            · have hw1 : ((tx l[0]).toList == [116, 97, 98, 108, 101]) = false := by rw [tx_toList, ← str_table]; simpa using hta
              by_cases hro : l[0] = Bags.str "row"
              · have hw2 : ((tx l[0]).toList == [114, 111, 119]) = true := by rw [tx_toList, hro, str_row]; rfl
                have HLR := Lib.hid (line_row (t := t) HPL.out h0 hro)
                clear hta hro
                rcases HF.out.2.2.2 with ⟨hnn, rfl⟩ | ⟨T, rfl, hnn, hTb, hk1, hk7, hr12⟩
                · have HNO := Lib.hid (show Bags.lineOne t ls[k] = none by rw [HLR.out, if_neg (fun h => h.1 hnn)])
                  clear hnn
                  go_wp2_with fail
                  try rw [Exit.noGoto_ret]
                  go_ret2
                  have hzf := (HB3.out).size
                  exact ⟨(HB3.out).alloc hzf _, .inr ⟨k + 1, _, by rw [HDD.out, HDF.out, HST.out, HNO.out], rfl, hzf, by simpa using Blk.made w3 75 #[.int .i64 1, .int .i64 (k + 1 : Nat)]⟩⟩
                · have HAD := Lib.hid (add_prog hP l _ w3 _ w.heap.size T t.kinds t.rows h0 HOL3.out HPB.out (by omega) hsz3 hTb hr12 hk1 hk7 (hv.below HB3.out hv.size))
                  have HTB := Lib.hid hTb
                  clear hTb
                  go_wp2_with fail
                  refine HAD.out.mono ?_
                  rintro e w4 ⟨hb4, hf4, ok, rfl, hok, hT4⟩
                  have HB4 := Lib.hid (HB3.out.trans hb4)
                  have HF4 := Lib.hid hf4
                  have HOK := Lib.hid hok
                  have HT4 := Lib.hid hT4
                  clear hb4 hf4 hok hT4
                  cases ok
                  · have HNO := Lib.hid (show Bags.lineOne t ls[k] = none by
                      rw [HLR.out, if_neg (fun h => by
                        have := HOK.out
                        rw [decide_eq_true h.2.1, h.2.2] at this
                        cases this)])
                    go_wp2_with fail
                    try rw [Exit.noGoto_ret]
                    go_ret2
                    have hzf := (HB4.out).size
                    exact ⟨(HB4.out).alloc hzf _, .inr ⟨k + 1, _, by rw [HDD.out, HDF.out, HST.out, HNO.out], rfl, hzf, by simpa using Blk.made w4 75 #[.int .i64 1, .int .i64 (k + 1 : Nat)]⟩⟩
                  · have hyes : Bags.lineOne t ls[k] = some { t with rows := t.rows + 1 } := by
                      have := HOK.out.symm
                      simp only [Bool.and_eq_true, decide_eq_true_eq] at this
                      rw [HLR.out, if_pos ⟨hnn, this⟩]
                    have hr12' : t.rows + 1 ≤ 12 := by
                      have := HOK.out.symm
                      simp only [Bool.and_eq_true, decide_eq_true_eq] at this
                      omega
                    have HY := Lib.hid hyes
                    have HNN := Lib.hid hnn
                    clear hyes hnn
                    go_wp2_with fail
                    exact ⟨⟨k + 1, { t with rows := t.rows + 1 }, by simp, by omega, by rw [HDF.out, HST.out, HY.out], HF.out.1.fr HF4.out HF.out.1.notTbl, HF.out.2.1.fr HF4.out (blk_not HF.out.2.1 (by decide) (by decide)), own_notTbl HF.out.2.2.1 HF4.out (by decide) (by decide), .inr ⟨T, rfl, HNN.out, HT4.out (by simp), hk1, hk7, hr12'⟩, hn8, HB4.out⟩, by simp [intOf]; omega⟩
              · have hw2 : ((tx l[0]).toList == [114, 111, 119]) = false := by rw [tx_toList, ← str_row]; simpa using hro
                have HNO := Lib.hid (line_none (t := t) HPL.out h0 hta hro)
                clear hta hro
                go_wp2_with fail
                try rw [Exit.noGoto_ret]
                go_ret2
                have hzf := (HB3.out).size
                exact ⟨(HB3.out).alloc hzf _, .inr ⟨k + 1, _, by rw [HDD.out, HDF.out, HST.out, HNO.out], rfl, hzf, by simpa using Blk.made w3 75 #[.int .i64 1, .int .i64 (k + 1 : Nat)]⟩⟩
      · have hlt' : ¬ (k : Int) < (ls.length : Int) := by omega
        have HE := Lib.hid (show Bags.dataFrom k t (ls.drop k) = none by rw [List.drop_of_length_le (by omega)]; rfl)
        clear hM hD hoL hlast hbl hdf
        go_wp2_with fail
        try rw [Exit.noGoto_ret]
        go_ret2
        exact ⟨HBL.out, .inl ⟨by rw [HDD.out, HDF.out, HE.out], _, rfl⟩⟩
end Go.Proofs.YtoephflcjllaaaaGreatDoor
/- Walks of the reference: tables in a row; find. -/
namespace Go.Proofs.YtoephflcjllaaaaGreatDoor
open Go.RowKit Go.Maps Go.WideMaps

/-- A table as the reference holds it: name, columns, types, rows. -/
abbrev RT := Bags.Str × Value × Value × Value
def tabCells (x : RT) : List Value := [.string (tx x.1), x.2.1, x.2.2.1, x.2.2.2]
theorem elem_tabs : Elem Tryz.prog 24 46 4 88 := ⟨Tryz.underlying24, by kernel_rfl, by decide⟩
theorem flat4 (l : List RT) : (l.flatMap tabCells).length = l.length * 4 := by
  induction l with
  | nil => rfl
  | cons w r ih => simp [tabCells, ih]; omega
theorem tab_get (l : List RT) : ∀ (i : Nat) (h : i < l.length) (j : Nat), j < 4 → (l.flatMap tabCells)[i * 4 + j]? = (tabCells l[i])[j]? := by
  induction l with
  | nil => intro i h; simp at h
  | cons x r ih =>
    intro i h j hj
    cases i with
    | zero =>
      rw [List.flatMap_cons, List.getElem?_append_left (by simp [tabCells]; omega)]
      simp
    | succ i =>
      rw [List.flatMap_cons, List.getElem?_append_right (by simp [tabCells]; omega)]
      have := ih i (by simpa using h) j hj
      rw [show (i + 1) * 4 + j - (tabCells x).length = i * 4 + j by simp [tabCells]; omega, this]
      simp
/-- A row of blocks of cells, as a slice. -/
theorem own_rows {w : World} {base : Nat} {e : TypeId} {size : Nat} {v : Value} {n : Nat} {xs : List Value} (h : w.ownsRow base e size v n xs) :
    ∃ ba cap, v = .slice ba n cap ∧ n ≤ cap ∧ cap ≤ maxLen ∧ (0 < n → ∃ g, ba = some ⟨g, 0, none⟩ ∧ g < w.heap.size ∧ base ≤ g ∧ v.ownBlock = some g ∧ (∀ i, i < n * size → w.cell? ⟨g, i, none⟩ = xs[i]?) ∧ ∀ i, w.frozen? ⟨g, i, none⟩ = false) := by
  obtain ⟨h1, h2⟩ := h
  rcases h2 with ⟨rfl, rfl⟩ | ⟨g, cap, cur, rfl, h3, h4, h5, h6, h7, h8⟩
  · exact ⟨none, 0, rfl, Nat.le_refl _, by unfold maxLen; omega, fun h => absurd h (by omega)⟩
  · refine ⟨some ⟨g, 0, none⟩, cap, rfl, h5, h6, fun _ => ⟨g, rfl, lt_of_some h4, h3, by simp [Value.ownBlock], fun i hi => ?_, fun i => by simp [World.frozen?, h4]⟩⟩
    have : w.cell? ⟨g, i, none⟩ = cur[i]? := by simp [World.cell?, h4]
    rw [this, ← h8, List.getElem?_take_of_lt hi, Array.getElem?_toList]
theorem own_put {w : World} {base : Nat} {e : TypeId} {size n g cap : Nat} {xs : List Value} (h : w.ownsRow base e size (.slice (some ⟨g, 0, none⟩) n cap) n xs) {i : Nat} (_hi : i < n * size) (u : Value) : (w.setCell ⟨g, i, none⟩ u).ownsRow base e size (.slice (some ⟨g, 0, none⟩) n cap) n (xs.set i u) := by
  obtain ⟨h1, h2⟩ := h
  refine ⟨by rw [List.length_set]; exact h1, ?_⟩
  rcases h2 with ⟨h2, _⟩ | ⟨g', cap', cur, h2, h3, h4, h5, h6, h7, h8⟩
  · cases h2
  · injection h2 with e1 _ e3
    injection e1 with e1
    injection e1 with e1
    subst e1 e3
    refine .inr ⟨g, cap, cur.setIfInBounds i u, rfl, h3, ?_, h5, h6, by simpa using h7, ?_⟩
    · simp [World.setCell, Array.getElem?_modify, h4]
    · rw [Array.toList_setIfInBounds, List.take_set, h8]

set_option maxRecDepth 100000 in
set_option maxHeartbeats 1000000 in
theorem find_ref (l : List RT) (v : Value) (s : Bags.Str) (w : World) (base : Nat) (hr : w.ownsRow base 46 4 v l.length (l.flatMap tabCells)) :
    Calls Tryz.prog 16 #[v, .string (tx s)] w fun e w' => (∃ r : Int, e = .returned (.int .i64 r) ∧ decide (0 ≤ r) = (l.map (·.1)).contains s) ∧ w' = w := by
  obtain ⟨ba, cap, rfl, hn, hcap, hcells⟩ := own_rows hr
  unfold maxLen at hcap
  have HC := Lib.hid hcells
  generalize hB : (l.map (·.1)).contains s = B
  have HBB := Lib.hid hB
  clear hcells hr hB
  go_enter Tryz.func16, Tryz.ntmps16
  go_wp2_with fail
  go_loop [5] (fun v => ∃ k : Nat, v = .int .i64 k ∧ k ≤ l.length ∧ ∀ x ∈ l.take k, x.1 ≠ s) (fun v => l.length - (intOf v).toNat)
  case atStart => exact ⟨0, rfl, by omega, by simp⟩
  case round =>
    obtain ⟨k, rfl, hk, hno⟩ := hrel
    have HN := Lib.hid hno
    clear hno
    by_cases hlt : k < l.length
    · have hlt' : (k : Int) < (l.length : Int) := by omega
      obtain ⟨g, rfl, hg, _, _, hc, _⟩ := HC.out (by omega)
      have c0 := hc (k * 4) (by omega)
      rw [show k * 4 = k * 4 + 0 from rfl, tab_get l k hlt 0 (by omega), show (tabCells l[k])[0]? = some (.string (tx l[k].1)) from rfl] at c0
      simp only [Nat.add_zero] at c0
      have htk : l.take (k + 1) = l.take k ++ [l[k]] := by rw [List.take_add_one]; simp [hlt]
      have he : ((tx l[k].1).toList == (tx s).toList) = decide (l[k].1 = s) := by rw [tx_toList, tx_toList, Bool.eq_iff_iff]; simp
      by_cases hm : l[k].1 = s
      · have hy : ((tx l[k].1).toList == (tx s).toList) = true := by rw [he]; simpa using hm
        have hr : B = true := by rw [← HBB.out, List.contains_iff_mem, ← hm]; exact List.mem_map_of_mem (List.getElem_mem _)
        clear htk he hm hc
        go_wp2_with fail
        go_ret
        exact ⟨⟨k, rfl, by simp⟩, rfl⟩
      · have hy : ((tx l[k].1).toList == (tx s).toList) = false := by rw [he]; simpa using hm
        have HX := Lib.hid (show ∀ x ∈ l.take (k + 1), x.1 ≠ s by
          rw [htk]
          intro x hx
          rcases List.mem_append.1 hx with h | h
          · exact HN.out x h
          · simp at h; subst h; exact hm)
        clear htk he hm hc
        go_wp2_with fail
        exact ⟨⟨k + 1, by simp, by omega, HX.out⟩, by simp [intOf]; omega⟩
    · have hlt' : ¬ (k : Int) < (l.length : Int) := by omega
      have hr : B = false := by
        rw [← HBB.out, Bool.eq_false_iff, ne_eq, List.contains_iff_mem]
        intro h
        obtain ⟨x, hx, hxs⟩ := List.mem_map.1 h
        exact HN.out x (by rw [List.take_of_length_le (by omega)]; exact hx) hxs
      go_wp2_with fail
      go_ret
      exact ⟨⟨-1, rfl, by simp⟩, rfl⟩
end Go.Proofs.YtoephflcjllaaaaGreatDoor
