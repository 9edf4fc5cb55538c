/- Walk: a table's row is added. -/
import Derived.Test.YtoephflcjllaaaaGreatDoorOW
namespace Bags
theorem rowOK_no {l : List Str} {kinds : List Bool} {j : Nat} (h1 : j < l.length) (h2 : j < kinds.length) (h : valOK l[j] kinds[j] = false) : rowOK l kinds = false := by
  unfold rowOK
  rw [Bool.and_eq_false_iff]
  right
  rw [Bool.eq_false_iff]
  intro ha
  rw [List.all_eq_true] at ha
  have hm : (l[j], kinds[j]) ∈ l.zip kinds := by
    have : (l.zip kinds)[j]'(by simp; omega) = (l[j], kinds[j]) := List.getElem_zip
    rw [← this]; exact List.getElem_mem _
  have := ha _ hm
  rw [show (l[j], kinds[j]).1 = l[j] from rfl, show (l[j], kinds[j]).2 = kinds[j] from rfl, h] at this
  cases this
theorem rowOK_yes {l : List Str} {kinds : List Bool} (h1 : l.length = kinds.length) (h : ∀ j (h1 : j < l.length) (h2 : j < kinds.length), valOK l[j] kinds[j] = true) : rowOK l kinds = true := by
  unfold rowOK
  rw [decide_eq_true h1, Bool.true_and, List.all_eq_true]
  intro p hp
  obtain ⟨j, hj, rfl⟩ := List.getElem_of_mem hp
  have hj2 : j < l.length ∧ j < kinds.length := by simp at hj; omega
  rw [List.getElem_zip]
  exact h j hj2.1 hj2.2
end Bags
namespace Go.Proofs.YtoephflcjllaaaaGreatDoor
open Go.RowKit Go.Maps Go.WideMaps

/-- A table in memory, in blocks from B on. -/
def Tbl (w : World) (B T : Nat) (kinds : List Bool) (rows : Nat) : Prop := B ≤ T ∧ ∃ (vN vK vR : Value) (cn cr : List Value), Blk w T 113 #[vN, vK, vR] ∧ w.ownsRow B 9 1 vN kinds.length cn ∧ w.ownsRow B 115 1 vK kinds.length (kinds.map kindV) ∧ w.ownsRow B 118 1 vR rows cr
/-- A block of cells of type t. -/
def HasTy (w : World) (k t : Nat) : Prop := ∃ cs fr, w.heap[k]? = some (.cells cs t fr)
/-- What the adding of a row may turn. -/
def TblS (w : World) (k : Nat) : Prop := HasTy w k 113 ∨ HasTy w k 118
theorem elem_rows : Elem Tryz.prog 111 118 1 24 := ⟨Tryz.underlying111, by kernel_rfl, by decide⟩
theorem elem_vals : Elem Tryz.prog 118 120 1 16 := ⟨Tryz.underlying118, by kernel_rfl, by decide⟩
theorem HasTy.own {w : World} {base : Nat} {e : TypeId} {size n : Nat} {v : Value} {xs : List Value} (h : w.ownsRow base e size v n xs) {g : Nat} (hg : v.ownBlock = some g) : HasTy w g e := by
  obtain ⟨_, h2⟩ := h
  rcases h2 with ⟨rfl, _⟩ | ⟨g', cap, cur, rfl, h3, h4, _⟩
  · simp [Value.ownBlock] at hg
  · simp [Value.ownBlock] at hg; subst hg; exact ⟨_, _, h4⟩
theorem HasTy.blk {w : World} {g : Nat} {t : TypeId} {cs : Array Value} (h : Blk w g t cs) : HasTy w g t := ⟨_, _, h⟩
theorem HasTy.ne {w : World} {g t t' : Nat} {cs : Array Value} (h : Blk w g t cs) (hne : t ≠ t') : ¬ HasTy w g t' := by
  rintro ⟨cs', fr, h'⟩
  unfold Blk at h
  rw [h] at h'
  injection h' with h'
  injection h' with _ h'
  exact hne h'
theorem blk_not {w : World} {g t : Nat} {cs : Array Value} (h : Blk w g t cs) (h1 : t ≠ 113) (h2 : t ≠ 118) : ¬ TblS w g := by
  rintro (h' | h')
  · exact HasTy.ne h h1 h'
  · exact HasTy.ne h h2 h'

/-- What add answers. -/
def AddPost (l : List Bags.Str) (B T : Nat) (kinds : List Bool) (rows : Nat) (w : World) (e : Ending) (w' : World) : Prop :=
  Below B w w' ∧ Fr (TblS w) w w' ∧ ∃ ok, e = .returned (.bool ok) ∧ ok = (decide (rows ≠ 12) && Bags.rowOK (l.drop 1) kinds) ∧ (ok = true → Tbl w' B T kinds (rows + 1))

set_option maxRecDepth 100000 in
set_option maxHeartbeats 8000000 in
theorem add_prog (hP : ParseSaid) (l : List Bags.Str) (v : Value) (w : World) (base B T : Nat) (kinds : List Bool) (rows : Nat) (h0 : 0 < l.length) (hr : w.ownsRow base 9 1 v l.length (l.map strV)) (hl : ∀ p ∈ l, p ≠ [] ∧ p.length ≤ 4000)
    (hll : l.length ≤ 4001) (hB : B ≤ w.heap.size) (hT : Tbl w B T kinds rows) (hrows : rows ≤ 12) (hk1 : 1 ≤ kinds.length) (hk7 : kinds.length ≤ 7) (hv : Vars w) :
    Calls Tryz.prog 30 #[.pointer (some ⟨T, 0, none⟩), v] w (AddPost l B T kinds rows w) := by
  obtain ⟨g, cap, rfl, hcap1, hcap2, hg, hc⟩ := row_get hr h0
  unfold maxLen at hcap2
  obtain ⟨hBT, vN, vK, vR, cn, cr, hbT, hoN, hoK, hoR⟩ := hT
  obtain ⟨bN, pN, rfl⟩ := own_slice hoN
  obtain ⟨bR, pR, rfl⟩ := own_slice hoR
  have t0 := hbT.cell 0
  have t1 := hbT.cell 1
  have t2 := hbT.cell 2
  have hTlt := hbT.lt
  simp at t0 t1 t2
  have HC := Lib.hid hc
  have HBT := Lib.hid hbT
  have HON := Lib.hid hoN
  have HOK := Lib.hid hoK
  have HOR := Lib.hid hoR
  by_cases hlen : (l.length : Int) = (kinds.length : Int) + 1
  · by_cases h12 : rows = 12
    · subst h12
      have hlenb : ((l.length : Int) != (kinds.length : Int) + 1) = false := by simpa using hlen
      clear hbT hoN hoK hoR hc hr
      go_enter Tryz.func30, Tryz.ntmps30
      go_wp2_with fail
      all_goals
        go_ret
        exact ⟨Below.refl _ _, Fr.refl _ _, false, rfl, by simp, fun h => by cases h⟩
    · have h12' : ((rows : Int) == 12) = false := by simp; omega
      have hlenb : ((l.length : Int) != (kinds.length : Int) + 1) = false := by simpa using hlen
      have hcap1' : ¬ cap = 1 := by omega
      have hcap1'' : (1 : Int) ≤ (l.length : Int) := by omega
      obtain ⟨bK, pK, rfl⟩ := own_slice hoK
      clear hbT hoN hoR hc hr
      go_enter Tryz.func30, Tryz.ntmps30
      go_wp2_with fail
      have hoK' := HOK.out
      obtain ⟨baK, capK, hKs, hK1, hK2, hKc⟩ := own_form hoK'
      obtain ⟨gK, hgK, hgK2, _, hKcell⟩ := hKc (by omega)
      injection hKs with hb1 _ hb2
      rw [hgK] at hb1
      subst hb1 hb2
      unfold maxLen at hK2
      go_loopw [5, 30] (fun r i wr => ∃ (k : Nat) (xs : List Value), i = .int .i64 k ∧ k ≤ kinds.length ∧ wr.ownsRow w.heap.size 120 1 r k xs ∧ (∀ j (h1 : j < k) (h2 : j + 1 < l.length) (h3 : j < kinds.length), Bags.valOK l[j + 1] kinds[j] = true) ∧ Below w.heap.size w wr) (fun _ i _ => kinds.length - (intOf i).toNat)
      case atStart => exact ⟨0, [], rfl, by omega, ⟨rfl, .inl ⟨rfl, rfl⟩⟩, fun j h => absurd h (by omega), Below.refl _ _⟩
      case round =>
        rename_i wr
        obtain ⟨k, xs, rfl, hk, hoX, hall, hbl⟩ := hrel
        have HBL := Lib.hid hbl
        have HALL := Lib.hid hall
        have hsz := hbl.size
        obtain ⟨bX, pX, rfl⟩ := own_slice hoX
        have HOX := Lib.hid hoX
        have e0 := (hbl.cell (p := ⟨T, 0, none⟩) hTlt).trans t0
        have e1 := (hbl.cell (p := ⟨T, 1, none⟩) hTlt).trans t1
        have e2 := (hbl.cell (p := ⟨T, 2, none⟩) hTlt).trans t2
        by_cases hlt : k < kinds.length
        · have hlt' : (k : Int) < (kinds.length : Int) := by omega
          have hlt2 : (k : Int) < (l.length : Int) - 1 := by omega
          have hk1' : k + 1 < l.length := by omega
          have d1 : wr.cell? ⟨g, 1 + k, none⟩ = some (.string (tx l[k + 1])) := by rw [show 1 + k = k + 1 by omega]; exact (hbl.cell (p := ⟨g, k + 1, none⟩) hg).trans (HC.out (k + 1) hk1')
          have d2 := (hbl.cell (p := ⟨gK, k, none⟩) hgK2).trans (hKcell k hlt)
          have hx : (kinds.map kindV)[k]? = some (kindV kinds[k]) := by simp [hlt]
          rw [hx] at d2
          unfold kindV at d2
          have hp := hl l[k + 1] (List.getElem_mem _)
          have hval := value_prog hP (tx l[k + 1]) kinds[k] wr (by rw [tx_size]; omega) (by rw [tx_size]; exact List.length_pos_iff.2 hp.1) (hv.below hbl hv.size)
          rw [bs_tx] at hval
          have hVB : Bags.valOK l[k + 1] kinds[k] = Bags.valOK l[k + 1] kinds[k] := rfl
          have HALL2 := Lib.hid (fun (h : Bags.valOK l[k + 1] kinds[k] = true) => show ∀ j (h1 : j < k + 1) (h2 : j + 1 < l.length) (h3 : j < kinds.length), Bags.valOK l[j + 1] kinds[j] = true from fun j h1 h2 h3 => by
            rcases Nat.lt_or_ge j k with h4 | h4
            · exact HALL.out j h4 h2 h3
            · obtain rfl : j = k := by omega
              exact h)
          have HNO := Lib.hid (fun (h : Bags.valOK l[k + 1] kinds[k] = false) => Bags.rowOK_no (l := l.drop 1) (kinds := kinds) (j := k) (by rw [List.length_drop]; omega) hlt (by rw [List.getElem_drop]; simpa [Nat.add_comm] using h))
          generalize Bags.valOK l[k + 1] kinds[k] = VB at *
          generalize kinds[k] = tk at *
          clear hoX hall hbl hx hVB
          have HV := Lib.hid hval
          clear hval
          cases tk
          all_goals
            cases VB
            · go_wp2_with fail
              refine HV.out.mono ?_
              rintro e w2 ⟨⟨tp, vp, rfl⟩, hb⟩
              have HB2 := Lib.hid (HBL.out.trans (hb.mono hsz))
              clear hb
              go_wp2_with fail
              go_ret
              exact ⟨HB2.out.mono hB, Fr.of_below HB2.out, false, rfl, by rw [HNO.out (by simp)]; simp, fun h => by cases h⟩
            · go_wp2_with fail
              refine HV.out.mono ?_
              rintro e w2 ⟨⟨tp, vp, rfl⟩, hb⟩
              have HB2 := Lib.hid (HBL.out.trans (hb.mono hsz))
              have hoX2 := own_later HOX.out hb
              have hsz2 := HB2.out.size
              clear hb
              go_wp2_with (at_builtin; refine wpList_append_one rfl _ _ rfl (base := w.heap.size) elem_vals rfl hoX2 (cs := #[.iface tp vp]) rfl rfl rfl (by simp [Value.oneCell']) (by unfold maxLen; omega) (by omega) hsz2 ?_; intro b' w3 hown3 hb3 _ hz3)
              exact ⟨⟨k + 1, _, by simp, by omega, hown3, HALL2.out (by simp), HB2.out.trans hb3⟩, by simp [intOf]; omega⟩
        · have hlt' : ¬ (k : Int) < (l.length : Int) - 1 := by omega
          have hke : k = kinds.length := by omega
          subst hke
          have hyes : Bags.rowOK (l.drop 1) kinds = true := Bags.rowOK_yes (by rw [List.length_drop]; omega) (fun j h1 h2 => by
            rw [List.getElem_drop]
            have := HALL.out j (by omega) (by omega) h2
            simpa [Nat.add_comm] using this)
          have HY := Lib.hid hyes
          have HR2 := Lib.hid (own_later HOR.out hbl)
          have HT2 := Lib.hid (HBT.out.later hbl)
          clear hoX hall hbl hyes
          go_wp2_with (at_builtin; refine wpList_append_one rfl _ _ rfl (base := B) elem_rows rfl HR2.out (cs := #[.slice bX kinds.length pX]) rfl rfl rfl (by simp [Value.oneCell']) (by unfold maxLen; omega) (by omega) (by omega) ?_; intro v5 w5 hown5 hb5 hk5 hz5; obtain ⟨bR5, pR5, rfl⟩ := own_slice hown5; have hT5 : Blk w5 T _ _ := (hk5 _ HT2.out.lt (Ne.symm (own_ne_blk HR2.out HT2.out (by decide)))).trans HT2.out; have HT5 := Lib.hid hT5; have HO5 := Lib.hid hown5; have HK5 := Lib.hid (And.intro hk5 (And.intro hb5 hz5)); have u3 := hT5.cell 2; have u4 := hT5.free 2; simp at u3; clear hT5 hown5 hb5 hk5 hz5)
          go_ret
          refine ⟨below_set (HBL.out.mono hB |>.trans HK5.out.2.1) (p := ⟨T, 2, none⟩) hBT _, ?_, true, rfl, by rw [HY.out]; simpa using h12, fun _ => ⟨hBT, .slice bN kinds.length pN, .slice (some ⟨gK, 0, none⟩) kinds.length pK, .slice bR5 (rows + 1) pR5, cn, _, by simpa using HT5.out.put 2 (.slice bR5 (rows + 1) pR5), ?_, ?_, own_set HO5.out (p := ⟨T, 2, none⟩) (own_ne_blk HO5.out HT5.out (by decide)) _⟩⟩
          · have f1 : Fr (TblS w) w wr := Fr.of_below HBL.out
            have f2 : Fr (TblS w) w w5 := ⟨HK5.out.2.1.os.trans f1.os, HK5.out.2.1.tape.trans f1.tape, HK5.out.2.1.output.trans f1.output, Nat.le_trans f1.size HK5.out.2.2, fun k hk hn => (HK5.out.1 k (by omega) (fun e => hn (.inr (HasTy.own HOR.out e.symm)))).trans (f1.keep k hk hn)⟩
            exact f2.set (p := ⟨T, 2, none⟩) (.inr (.inl (HasTy.blk HBT.out))) _
          · exact own_set (own_keep (own_later HON.out HBL.out) HK5.out.1 (fun g h e => own_ne_own HON.out HOR.out (by decide) g h e.symm)) (p := ⟨T, 2, none⟩) (own_ne_blk HON.out HBT.out (by decide)) _
          · exact own_set (own_keep (own_later HOK.out HBL.out) HK5.out.1 (fun g h e => own_ne_own HOK.out HOR.out (by decide) g h e.symm)) (p := ⟨T, 2, none⟩) (own_ne_blk HOK.out HBT.out (by decide)) _
  · have hlen' : ((l.length : Int) != (kinds.length : Int) + 1) = true := by simpa using hlen
    have hno : Bags.rowOK (l.drop 1) kinds = false := by
      unfold Bags.rowOK
      rw [decide_eq_false (by rw [List.length_drop]; omega)]; rfl
    clear hlen
    clear hbT hoN hoK hoR hc hr
    go_enter Tryz.func30, Tryz.ntmps30
    go_wp2_with fail
    all_goals
      go_ret
      exact ⟨Below.refl _ _, Fr.refl _ _, false, rfl, by rw [hno]; simp, fun h => by cases h⟩
end Go.Proofs.YtoephflcjllaaaaGreatDoor
