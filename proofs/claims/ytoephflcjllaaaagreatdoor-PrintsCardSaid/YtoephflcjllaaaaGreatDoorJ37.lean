/- Walks of the reference's cutter: about. -/
import Derived.Test.YtoephflcjllaaaaGreatDoorJ36
namespace Go.Proofs.YtoephflcjllaaaaGreatDoor
open Go.RowKit

theorem str_is : Bags.str "is" = bs ⟨#[105, 115]⟩ := by decide
theorem str_not : Bags.str "not" = bs ⟨#[110, 111, 116]⟩ := by decide
theorem str_nullw : Bags.str "null" = bs ⟨#[110, 117, 108, 108]⟩ := by decide
theorem str_in : Bags.str "in" = bs ⟨#[105, 110]⟩ := by decide
theorem str_any : Bags.str "any" = bs ⟨#[97, 110, 121]⟩ := by decide
theorem is_or (x : Bags.W) (n : Nat) (a b : Bags.Str) : x.is n [a, b] = (x.is n [a] || x.is n [b]) := by
  simp only [Bags.W.is, List.contains_cons, List.contains_nil, Bool.or_false]
  cases x.sort == n <;> simp
/-- What about answers. -/
def AbRes (c : Ctx) (i p j : Nat) (w : World) (e : Ending) (w' : World) : Prop :=
  CS c w' ∧ Fr (· = c.M) w w' ∧ ((e = .returned (.pointer none) ∧ ¬ Bags.About c.ws p j) ∨ ∃ b t, e = .returned (.pointer (some ⟨b, 0, none⟩)) ∧ c.B ≤ b ∧ treeK w' c.B .basic t b ∧ Bags.Der c.ws .basic i j t)
theorem IsRes.ab {c : Ctx} {i p j : Nat} {w w' : World} {b : Nat} (h : IsRes c .basic i j w (.returned (.pointer (some ⟨b, 0, none⟩))) w') : AbRes c i p j w (.returned (.pointer (some ⟨b, 0, none⟩))) w' := by
  obtain ⟨h1, h2, ⟨h3, _⟩ | h3⟩ := h
  · injection h3 with h3; injection h3 with h3; cases h3
  · exact ⟨h1, h2, .inr h3⟩
theorem AbRes.drew {c : Ctx} {i p j : Nat} {w w' : World} {e : Ending} (h : AbRes c i p j w e w') : AbRes c i p j w e w'.drew := by
  obtain ⟨h1, h2, h3⟩ := h
  refine ⟨h1.drew, h2.drew, h3.imp id fun ⟨b, t, e1, e2, e3, e4⟩ => ⟨b, t, e1, e2, e3.fr ((Fr.refl (· = c.M) w').drew) h1.lt.2.2.1, e4⟩⟩
theorem AbRes.no {c : Ctx} {i p j : Nat} {w w' : World} (hc : CS c w') (hf : Fr (· = c.M) w w') (h : ¬ Bags.About c.ws p j) : AbRes c i p j w (.returned (.pointer none)) w' := ⟨hc, hf, .inl ⟨rfl, h⟩⟩

set_option maxRecDepth 100000 in
set_option maxHeartbeats 8000000 in
theorem about_is {c : Ctx} {i p j : Nat} (hpj : p < j) (hj : j ≤ c.n) (w : World) (h : CS c w) {ba : Nat} {ta : Bags.T} (hta : tr w c.B ta [ba]) (hda : Bags.Der c.ws .expr i p ta)
    (hbi : (Bags.wd c.ws p).is 1 [Bags.str "is"] = true) :
    Calls Tryz.prog 113 #[.pointer (some ⟨c.C, 0, none⟩), .pointer (some ⟨ba, 0, none⟩), .int .i64 p, .int .i64 j] w (AbRes c i p j w) := by
  have hn := h.pos.2
  have hM := h.lt.2.2.1
  have hKI := key_any c w h p ⟨#[105, 115]⟩
  have hKN := key_any c w h (p + 1) ⟨#[110, 111, 116]⟩
  have hKU := key_any c w h (Bags.notAt c.ws (p + 1)) ⟨#[110, 117, 108, 108]⟩
  rw [← str_is, hbi] at hKI
  rw [← str_not, show ((p + 1 : Nat) : Int) = (p : Int) + 1 by omega] at hKN
  rw [← str_nullw] at hKU
  unfold ptr at hKI hKN hKU
  have hAb : Bags.About c.ws p j ↔ (Bags.wd c.ws (Bags.notAt c.ws (p + 1))).is 1 [Bags.str "null"] = true ∧ j = Bags.notAt c.ws (p + 1) + 1 := by unfold Bags.About; rw [if_pos hbi]
  have hD3 := fun (h1 : (Bags.wd c.ws (p + 1)).is 1 [Bags.str "null"] = true) (h2 : p + 2 ≤ c.ws.length) => hda.b3 hbi h1 h2
  have hD4 := fun h0 (h1 : (Bags.wd c.ws (p + 2)).is 1 [Bags.str "null"] = true) (h2 : p + 3 ≤ c.ws.length) => hda.b4 hbi h0 h1 h2
  have hA : Bags.notAt c.ws (p + 1) = if (Bags.wd c.ws (p + 1)).is 1 [Bags.str "not"] then p + 2 else p + 1 := rfl
  generalize hbn : (Bags.wd c.ws (p + 1)).is 1 [Bags.str "not"] = BN at *
  generalize hbu : (Bags.wd c.ws (Bags.notAt c.ws (p + 1))).is 1 [Bags.str "null"] = BU at *
  have HAB := Lib.hid hAb
  have HD := Lib.hid (show BU = true → j = Bags.notAt c.ws (p + 1) + 1 → Bags.Der c.ws .basic i j (.isnull ta BN) from fun h1 h2 => by
    cases BN
    · rw [if_neg (by decide)] at hA
      rw [hA] at hbu h2
      subst h2
      exact hD3 (hbu.trans h1) hj
    · rw [if_pos rfl] at hA
      rw [hA] at hbu h2
      subst h2
      exact hD4 rfl (hbu.trans h1) hj)
  have hA1 : BN = false → ((Bags.notAt c.ws (p + 1) : Nat) : Int) = (p : Int) + 1 := fun h => by rw [hA, h]; simp
  have hA2 : BN = true → ((Bags.notAt c.ws (p + 1) : Nat) : Int) = (p : Int) + 2 := fun h => by rw [hA, h]; simp
  have hA3 : Bags.notAt c.ws (p + 1) ≤ p + 2 := by rw [hA]; split <;> omega
  generalize Bags.notAt c.ws (p + 1) = A at *
  have HA := Lib.hid (And.intro hA1 hA2)
  have HKI := Lib.hid hKI
  have HKN := Lib.hid hKN
  have HKU := Lib.hid hKU
  have HC := Lib.hid h
  have HTA := Lib.hid hta
  clear hKI hKN hKU hAb hD3 hD4 hA hbn hbu hA1 hA2 h hta hda
  go_enter Tryz.func113, Tryz.ntmps113
  go_wp2_with fail
  refine HKI.out.mono ?_
  rintro e w1 ⟨rfl, rfl⟩
  go_wp2_with fail
  refine HKN.out.mono ?_
  rintro e w1 ⟨rfl, rfl⟩
  go_upto_if 34 with fail
  go_cut [11] from 32 to 36 (fun v wx => v = .int .i64 A ∧ w = wx)
  case first =>
    cases BN
    · have HQ := Lib.hid (HA.out.1 rfl)
      go_wp2_with fail
      go_meet
      case rel => exact ⟨by rw [HQ.out], rfl⟩
    · have HQ := Lib.hid (HA.out.2 rfl)
      go_wp2_with fail
      go_meet
      case rel => exact ⟨by rw [HQ.out], rfl⟩
  case rest =>
    obtain ⟨rfl, rfl⟩ := hcut
    go_wp2_with fail
    refine HKU.out.mono ?_
    rintro e w1 ⟨rfl, rfl⟩
    have hAI : (A : Int) ≤ 402 := by omega
    cases BU
    · go_wp2_with fail
      go_ret
      exact .no HC.out (Fr.refl _ _) (fun h => absurd (HAB.out.1 h).1 (by decide))
    · by_cases hjA : j = A + 1
      · have HJ := Lib.hid hjA
        have hjb : ((j : Int) == (A : Int) + 1) = true := by simp; omega
        clear hjA
        go_wp2_with fail
        go_ret
        exact IsRes.ab (IsRes.one HC.out (Fr.refl _ _) (t := .isnull ta BN) (kd := Bags.str "isnull") (sg := []) (txt := []) (of_ := []) (as_ := []) (nm := 0) (st := false) (nt := BN) (al := false) rfl (fun w2 h2 hf2 => ⟨ba, HTA.out.fr hf2 hM, h2⟩) (HD.out (by trivial) HJ.out))
      · have HJ := Lib.hid hjA
        have hjb : ((j : Int) == (A : Int) + 1) = false := beq_eq_false_iff_ne.2 (by omega)
        clear hjA
        go_wp2_with fail
        go_ret
        exact .no HC.out (Fr.refl _ _) (fun h => HJ.out (HAB.out.1 h).2)

theorem cmps_len : Bags.cmps.length = 6 := rfl
set_option maxRecDepth 100000 in
set_option maxHeartbeats 8000000 in
theorem about_no {c : Ctx} {N : Nat} (hI : IsOK c N) {i p j : Nat} (hip : i < p) (hpj : p < j) (hj : j ≤ c.n) (hN : rank 14 i j ≤ N) (w : World) (h : CS c w) {ba : Nat} {ta : Bags.T} (hta : tr w c.B ta [ba]) (hda : Bags.Der c.ws .expr i p ta)
    (hbi : (Bags.wd c.ws p).is 1 [Bags.str "is"] = false) :
    Calls Tryz.prog 113 #[.pointer (some ⟨c.C, 0, none⟩), .pointer (some ⟨ba, 0, none⟩), .int .i64 p, .int .i64 j] w (AbRes c i p j w) := by
  have hn := h.pos.2
  have hM := h.lt.2.2.1
  have hKI := key_any c w h p ⟨#[105, 115]⟩
  have hKN := key_any c w h p ⟨#[110, 111, 116]⟩
  have hKU := key_any c w h (Bags.notAt c.ws p) ⟨#[105, 110]⟩
  rw [← str_is, hbi] at hKI
  rw [← str_not] at hKN
  rw [← str_in] at hKU
  unfold ptr at hKI hKN hKU
  have hAb : Bags.About c.ws p j ↔ if (Bags.wd c.ws (Bags.notAt c.ws p)).is 1 [Bags.str "in"] = true then ∃ t, Bags.Rnd c.ws .query (Bags.notAt c.ws p + 1) j t
      else (Bags.wd c.ws p).is 5 Bags.cmps = true ∧ if (Bags.wd c.ws (p + 1)).is 1 [Bags.str "any", Bags.str "all"] = true then ∃ t, Bags.Rnd c.ws .query (p + 2) j t else Bags.Has c.ws .expr (p + 1) j := by unfold Bags.About; rw [if_neg (Bags.no hbi)]
  have hA : Bags.notAt c.ws p = if (Bags.wd c.ws p).is 1 [Bags.str "not"] then p + 1 else p := rfl
  generalize hbn : (Bags.wd c.ws p).is 1 [Bags.str "not"] = BN at *
  generalize hbu : (Bags.wd c.ws (Bags.notAt c.ws p)).is 1 [Bags.str "in"] = BU at *
  have HAB := Lib.hid hAb
  have HD := Lib.hid (show BU = true → ∀ q, Bags.Rnd c.ws .query (Bags.notAt c.ws p + 1) j q → Bags.Der c.ws .basic i j (.isin ta BN q) from fun h1 q h2 => by
    cases BN
    · rw [if_neg (by decide)] at hA
      rw [hA] at hbu h2
      exact hda.b5 (hbu.trans h1) h2
    · rw [if_pos rfl] at hA
      rw [hA] at hbu h2
      exact hda.b6 hbn (hbu.trans h1) h2)
  have hA1 : BN = false → ((Bags.notAt c.ws p : Nat) : Int) = (p : Int) := fun h => by rw [hA, h]; simp
  have hA2 : BN = true → ((Bags.notAt c.ws p : Nat) : Int) = (p : Int) + 1 := fun h => by rw [hA, h]; simp
  have hA3 : Bags.notAt c.ws p ≤ p + 1 ∧ p ≤ Bags.notAt c.ws p := by rw [hA]; split <;> omega
  generalize Bags.notAt c.ws p = A at *
  have HA := Lib.hid (And.intro hA1 hA2)
  have HKI := Lib.hid hKI
  have HKN := Lib.hid hKN
  have HKU := Lib.hid hKU
  have HC := Lib.hid h
  have HTA := Lib.hid (And.intro hta hda)
  have hRQ : Calls Tryz.prog 110 #[.pointer (some ⟨c.C, 0, none⟩), .int .i64 0, .int .i64 (A + 1 : Nat), .int .i64 j] w (RoundRes c .query (A + 1) j w) :=
    round_any hI (k := 0) (by decide) (by omega) hj (by omega) (Nat.lt_of_lt_of_le (rank_lt (k := 14) (i := i) (j := j) (by omega)) hN) w h
  rw [show ((A + 1 : Nat) : Int) = (A : Int) + 1 by omega] at hRQ
  have HRQ := Lib.hid hRQ
  have HIS := Lib.hid hI
  clear hKI hKN hKU hAb hA hbn hbu hA1 hA2 h hta hda hRQ hI hbi
  go_enter Tryz.func113, Tryz.ntmps113
  go_wp2_with fail
  refine HKI.out.mono ?_
  rintro e w1 ⟨rfl, rfl⟩
  go_wp2_with fail
  refine HKN.out.mono ?_
  rintro e w1 ⟨rfl, rfl⟩
  go_upto_if 56 with fail
  go_cut [14] from 55 to 58 (fun v wx => v = .int .i64 A ∧ w = wx)
  case first =>
    cases BN
    · have HQ := Lib.hid (HA.out.1 rfl)
      go_wp2_with fail
      go_meet
      case rel => exact ⟨by rw [HQ.out], rfl⟩
    · have HQ := Lib.hid (HA.out.2 rfl)
      go_wp2_with fail
      go_meet
      case rel => exact ⟨by rw [HQ.out], rfl⟩
  case rest =>
    obtain ⟨rfl, rfl⟩ := hcut
    go_wp2_with fail
    refine HKU.out.mono ?_
    rintro e w1 ⟨rfl, rfl⟩
    have hAI : (A : Int) ≤ 402 := by omega
    cases BU
    · -- signs
      have HAB2 := Lib.hid (HAB.out.trans (by rw [if_neg (by decide)]))
      have hgM : w.heap.size ≠ c.M := by have := HC.out.size; omega
      have HG := Lib.hid (show Blk (w.alloc (.cells #[.string ⟨#[61]⟩, .string ⟨#[60, 62]⟩, .string ⟨#[60]⟩, .string ⟨#[60, 61]⟩, .string ⟨#[62]⟩, .string ⟨#[62, 61]⟩] 9)) w.heap.size 9 (Bags.cmps.map strV).toArray from Blk.made _ _ _)
      have HFA := Lib.hid (fun o => ((Fr.refl (· = c.M) w).alloc o))
      have hK1 := fun W h => key_any c W h (p + 1) ⟨#[97, 110, 121]⟩
      have hK2 := fun W h => key_any c W h (p + 1) ⟨#[97, 108, 108]⟩
      rw [← str_any, show ((p + 1 : Nat) : Int) = (p : Int) + 1 by omega] at hK1
      rw [← str_all, show ((p + 1 : Nat) : Int) = (p : Int) + 1 by omega] at hK2
      unfold ptr at hK1 hK2
      have hor := is_or (Bags.wd c.ws (p + 1)) 1 (Bags.str "any") (Bags.str "all")
      generalize (Bags.wd c.ws (p + 1)).is 1 [Bags.str "any"] = BA at *
      generalize (Bags.wd c.ws (p + 1)).is 1 [Bags.str "all"] = BL at *
      have HOR := Lib.hid hor
      have HK1 := Lib.hid hK1
      have HK2 := Lib.hid hK2
      have hR2 : ∀ W, CS c W → Calls Tryz.prog 110 #[.pointer (some ⟨c.C, 0, none⟩), .int .i64 0, .int .i64 (p + 2 : Nat), .int .i64 j] W (RoundRes c .query (p + 2) j W) := fun W h =>
        round_any HIS.out (k := 0) (by decide) (by omega) hj (by omega) (Nat.lt_of_lt_of_le (rank_lt (k := 14) (i := i) (j := j) (by omega)) hN) W h
      have hE2 : ∀ W, CS c W → Calls Tryz.prog 42 #[.pointer (some ⟨c.C, 0, none⟩), .int .i64 15, .int .i64 (p + 1 : Nat), .int .i64 j] W (IsRes c .expr (p + 1) j W) := fun W h =>
        HIS.out 15 (p + 1) j W (by decide) (Nat.lt_of_lt_of_le (rank_lt (k := 14) (i := i) (j := j) (by omega)) hN) (by omega) (by omega) h
      simp only [show ((p + 2 : Nat) : Int) = (p : Int) + 2 by omega] at hR2
      simp only [show ((p + 1 : Nat) : Int) = (p : Int) + 1 by omega] at hE2
      have HR2 := Lib.hid hR2
      have HE2 := Lib.hid hE2
      clear hK1 hK2 hor hR2 hE2
      go_wp2_with fail
      go_loopw [18] (fun kv wz => ∃ m : Nat, kv = .int .i64 m ∧ m ≤ 6 ∧ CS c wz ∧ Fr (· = c.M) (w.alloc (.cells #[.string ⟨#[61]⟩, .string ⟨#[60, 62]⟩, .string ⟨#[60]⟩, .string ⟨#[60, 61]⟩, .string ⟨#[62]⟩, .string ⟨#[62, 61]⟩] 9)) wz ∧ (∀ q (h : q < m) (h2 : q < Bags.cmps.length), (Bags.wd c.ws p).is 5 [Bags.cmps[q]] = true → ¬ Bags.About c.ws p j)) (fun kv _ => 6 - (intOf kv).toNat)
      case atStart => exact ⟨0, rfl, by omega, HC.out.alloc _, Fr.refl _ _, fun q h => absurd h (by omega)⟩
      case round =>
        rename_i wr
        obtain ⟨m, rfl, hm, hcz, hfz, hall⟩ := hrel
        have HCZ := Lib.hid hcz
        have HFZ := Lib.hid hfz
        have HALL := Lib.hid hall
        by_cases hml : m < 6
        · have hml' : (m : Int) < 6 := by omega
          have hml2 : m < Bags.cmps.length := hml
          have hm0 : (0 : Int) ≤ (m : Int) := by omega
          have hgz := HG.out.fr hfz hgM
          have s0 := hgz.cell m
          have hx : (Bags.cmps.map strV).toArray[m]? = some (.string (tx Bags.cmps[m])) := by simp [hml2, strV]
          rw [hx] at s0
          have hK := sign_any c wr hcz p (tx Bags.cmps[m])
          rw [bs_tx] at hK
          unfold ptr at hK
          have HTXT := Lib.hid (fun (h : (Bags.wd c.ws p).is 5 [Bags.cmps[m]] = true) => show (Bags.wd c.ws p).text = Bags.cmps[m] ∧ (Bags.wd c.ws p).is 5 Bags.cmps = true from ⟨Bags.is_one h, is_of1 h (List.getElem_mem _)⟩)
          have HSTEP := Lib.hid (fun (h : (Bags.wd c.ws p).is 5 [Bags.cmps[m]] = true → ¬ Bags.About c.ws p j) => show ∀ q (h : q < m + 1) (h2 : q < Bags.cmps.length), (Bags.wd c.ws p).is 5 [Bags.cmps[q]] = true → ¬ Bags.About c.ws p j from fun q h1 h2 => by
            rcases Nat.lt_or_ge q m with h3 | h3
            · exact HALL.out q h3 h2
            · obtain rfl : q = m := by omega
              exact h)
          generalize Bags.cmps[m] = OP at *
          generalize hb1 : (Bags.wd c.ws p).is 5 [OP] = B1 at *
          have HB1 := Lib.hid hb1
          have HK := Lib.hid hK
          clear hcz hfz hall hgz hx hK hb1
          cases B1
          · go_wp2_with fail
            refine HK.out.mono ?_
            rintro e w2 ⟨rfl, rfl⟩
            go_wp2_with fail
            exact ⟨⟨m + 1, by simp, by omega, HCZ.out, HFZ.out, HSTEP.out (fun h => by cases h)⟩, by simp [intOf]; omega⟩
          · have HT := Lib.hid (HTXT.out rfl)
            cases hq : (BA || BL)
            · have hBA : BA = false := by cases BA <;> simp at hq ⊢
              have hBL : BL = false := by cases BL <;> simp [hBA] at hq ⊢
              have HOR2 := Lib.hid (HOR.out.trans hq)
              subst hBA hBL
              clear hq
              go_wp2_with fail
              refine HK.out.mono ?_
              rintro e w2 ⟨rfl, rfl⟩
              go_wp2_with fail
              refine (HK1.out _ HCZ.out).mono ?_
              rintro e w2 ⟨rfl, rfl⟩
              go_wp2_with fail
              refine (HK2.out _ HCZ.out).mono ?_
              rintro e w2 ⟨rfl, rfl⟩
              go_wp2_with fail
              refine (HE2.out _ HCZ.out).mono ?_
              rintro e w5 ⟨hc5, hf5, h5⟩
              have HC5 := Lib.hid hc5
              have HF5 := Lib.hid (HFZ.out.trans hf5 (fun _ _ h => h))
              clear hc5 hf5
              rcases h5 with ⟨rfl, hno5⟩ | ⟨b5, t5, rfl, hb5, ht5, hd5⟩
              · go_wp2_with fail
                exact ⟨⟨m + 1, by simp, by omega, HC5.out, HF5.out, HSTEP.out (fun _ h => by
                  have h' := HAB2.out.1 h
                  rw [HOR2.out, if_neg (by decide)] at h'
                  exact hno5 h'.2)⟩, by simp [intOf]; omega⟩
              · have hg5 := HG.out.fr HF5.out hgM
                have s5 := hg5.cell m
                have hx : (Bags.cmps.map strV).toArray[m]? = some (.string (tx OP)) := by
                  have h0 := (HG.out.fr HFZ.out hgM).cell m
                  rw [h0] at s0
                  exact s0
                rw [hx] at s5
                have HT5 := Lib.hid (And.intro ht5 hd5)
                clear ht5 hd5 hg5 hx
                go_wp2_with fail
                go_ret
                exact IsRes.ab (IsRes.two HC5.out ((HFA.out _).trans HF5.out (fun _ _ h => h)) (t := .cmp OP ta t5) (x := ba) (y := b5) (kd := Bags.str "compare") (sg := OP) (txt := []) (of_ := []) (as_ := []) (nm := 0) (st := false) (nt := false) (al := false) rfl
                  (fun w2 h2 hf2 => ⟨ba, b5, (HTA.out.1.fr ((HFA.out _).trans HF5.out (fun _ _ h => h)) hM).fr hf2 hM, HT5.out.1.fr hf2 hM, h2⟩) (by have := HTA.out.2.b8 HT.out.2 HT5.out.2; rwa [HT.out.1] at this))
            · have HOR2 := Lib.hid (HOR.out.trans hq)
              have hk12 : ∃ B, BA = B ∧ (B = false → BL = true) := ⟨BA, rfl, fun h => by rw [h] at hq; simpa using hq⟩
              obtain ⟨_, rfl, hBL⟩ := hk12
              clear hq
              obtain ⟨_, wt1, _⟩ := HCZ.out.word (show p + 1 < c.n by
                rcases Nat.lt_or_ge (p + 1) c.n with h | h
                · exact h
                · have := HOR2.out
                  rw [wd_sort h _ _ (by decide)] at this
                  cases this)
              have hp1n : (p : Int) + 1 < (c.n : Int) := by
                rcases Nat.lt_or_ge (p + 1) c.n with h | h
                · omega
                · have := HOR2.out
                  rw [wd_sort h _ _ (by decide)] at this
                  cases this
              have hp10 : (0 : Int) ≤ (p : Int) + 1 := by omega
              have hto : ((p : Int) + 1).toNat = p + 1 := by omega
              have hwr : IntKind.i64.wrap ((p : Int) + 1) = (p : Int) + 1 := iwrap (by omega)
              have hcap := HCZ.out.capn
              unfold maxLen at hcap
              have WORD := Lib.hid wt1
              cases BA
              · have hBL' := hBL rfl
                subst hBL'
                clear hBL wt1
                go_wp2_with fail
                refine HK.out.mono ?_
                rintro e w2 ⟨rfl, rfl⟩
                go_wp2_with fail
                refine (HK1.out _ HCZ.out).mono ?_
                rintro e w2 ⟨rfl, rfl⟩
                go_wp2_with fail
                refine (HK2.out _ HCZ.out).mono ?_
                rintro e w2 ⟨rfl, rfl⟩
                go_wp2_with fail
                refine (HR2.out _ HCZ.out).mono ?_
                rintro e w5 ⟨hc5, hf5, h5⟩
                have HC5 := Lib.hid hc5
                have HF5 := Lib.hid (HFZ.out.trans hf5 (fun _ _ h => h))
                rcases h5 with ⟨rfl, hno5⟩ | ⟨b5, t5, rfl, hb5, ht5, hd5⟩
                · clear hc5 hf5
                  go_wp2_with fail
                  go_ret
                  exact .no HC5.out ((HFA.out _).trans HF5.out (fun _ _ h => h)) (fun h => by
                    have h' := HAB2.out.1 h
                    rw [HOR2.out, if_pos rfl] at h'
                    exact hno5 h'.2)
                · have c0 := hc5.blk.cell 0
                  simp at c0
                  obtain ⟨_, wt5, _⟩ := hc5.word (show p + 1 < c.n by omega)
                  have hg5 := HG.out.fr HF5.out hgM
                  have s5 := hg5.cell m
                  have hx : (Bags.cmps.map strV).toArray[m]? = some (.string (tx OP)) := by
                    have h0 := (HG.out.fr HFZ.out hgM).cell m
                    rw [h0] at s0
                    exact s0
                  rw [hx] at s5
                  have HT5 := Lib.hid (And.intro ht5 hd5)
                  clear ht5 hd5 hg5 hx hc5 hf5
                  go_wp2_with fail
                  go_region_held3 (fun w' => w'.cell? ⟨c.C, 0, none⟩ = some (.slice (some ⟨c.W, 0, none⟩) c.n c.cap) ∧ w'.cell? ⟨c.W, (p + 1) * 3 + 1, none⟩ = some (.string (tx (Bags.wd c.ws (p + 1)).text)) ∧ w'.cell? ⟨w.heap.size, m, none⟩ = some (.string (tx OP)))
                    (first | exact ⟨c0, wt5, s5⟩ | exact ⟨cell_alloc c0 _, cell_alloc wt5 _, cell_alloc s5 _⟩ | exact ⟨cell_alloc (cell_alloc c0 _) _, cell_alloc (cell_alloc wt5 _) _, cell_alloc (cell_alloc s5 _) _⟩ | go_keep) (fail)
                  all_goals go_wp2_with fail
                  go_ret
                  exact AbRes.drew (IsRes.ab (IsRes.two HC5.out ((HFA.out _).trans HF5.out (fun _ _ h => h)) (t := .quant OP (Bags.wd c.ws (p + 1)).text ta t5) (x := ba) (y := b5) (kd := (Bags.wd c.ws (p + 1)).text) (sg := OP) (txt := []) (of_ := []) (as_ := []) (nm := 0) (st := false) (nt := false) (al := false) rfl
                    (fun w2 h2 hf2 => ⟨ba, b5, (HTA.out.1.fr ((HFA.out _).trans HF5.out (fun _ _ h => h)) hM).fr hf2 hM, HT5.out.1.fr hf2 hM, h2⟩) (by have := HTA.out.2.b7 HT.out.2 HOR2.out HT5.out.2; rwa [HT.out.1] at this)))
              · clear hBL wt1
                cases BL
                all_goals
                  go_wp2_with fail
                  refine HK.out.mono ?_
                  rintro e w2 ⟨rfl, rfl⟩
                  go_wp2_with fail
                  refine (HK1.out _ HCZ.out).mono ?_
                  rintro e w2 ⟨rfl, rfl⟩
                  go_wp2_with fail
                  refine (HK2.out _ HCZ.out).mono ?_
                  rintro e w2 ⟨rfl, rfl⟩
                  go_wp2_with fail
                  refine (HR2.out _ HCZ.out).mono ?_
                  rintro e w5 ⟨hc5, hf5, h5⟩
                  have HC5 := Lib.hid hc5
                  have HF5 := Lib.hid (HFZ.out.trans hf5 (fun _ _ h => h))
                  rcases h5 with ⟨rfl, hno5⟩ | ⟨b5, t5, rfl, hb5, ht5, hd5⟩
                  · clear hc5 hf5
                    go_wp2_with fail
                    go_ret
                    exact .no HC5.out ((HFA.out _).trans HF5.out (fun _ _ h => h)) (fun h => by
                      have h' := HAB2.out.1 h
                      rw [HOR2.out, if_pos rfl] at h'
                      exact hno5 h'.2)
                  · have c0 := hc5.blk.cell 0
                    simp at c0
                    obtain ⟨_, wt5, _⟩ := hc5.word (show p + 1 < c.n by omega)
                    have hg5 := HG.out.fr HF5.out hgM
                    have s5 := hg5.cell m
                    have hx : (Bags.cmps.map strV).toArray[m]? = some (.string (tx OP)) := by
                      have h0 := (HG.out.fr HFZ.out hgM).cell m
                      rw [h0] at s0
                      exact s0
                    rw [hx] at s5
                    have HT5 := Lib.hid (And.intro ht5 hd5)
                    clear ht5 hd5 hg5 hx hc5 hf5
                    go_wp2_with fail
                    go_region_held3 (fun w' => w'.cell? ⟨c.C, 0, none⟩ = some (.slice (some ⟨c.W, 0, none⟩) c.n c.cap) ∧ w'.cell? ⟨c.W, (p + 1) * 3 + 1, none⟩ = some (.string (tx (Bags.wd c.ws (p + 1)).text)) ∧ w'.cell? ⟨w.heap.size, m, none⟩ = some (.string (tx OP)))
                      (first | exact ⟨c0, wt5, s5⟩ | exact ⟨cell_alloc c0 _, cell_alloc wt5 _, cell_alloc s5 _⟩ | exact ⟨cell_alloc (cell_alloc c0 _) _, cell_alloc (cell_alloc wt5 _) _, cell_alloc (cell_alloc s5 _) _⟩ | go_keep) (fail)
                    all_goals go_wp2_with fail
                    go_ret
                    exact AbRes.drew (IsRes.ab (IsRes.two HC5.out ((HFA.out _).trans HF5.out (fun _ _ h => h)) (t := .quant OP (Bags.wd c.ws (p + 1)).text ta t5) (x := ba) (y := b5) (kd := (Bags.wd c.ws (p + 1)).text) (sg := OP) (txt := []) (of_ := []) (as_ := []) (nm := 0) (st := false) (nt := false) (al := false) rfl
                      (fun w2 h2 hf2 => ⟨ba, b5, (HTA.out.1.fr ((HFA.out _).trans HF5.out (fun _ _ h => h)) hM).fr hf2 hM, HT5.out.1.fr hf2 hM, h2⟩) (by have := HTA.out.2.b7 HT.out.2 HOR2.out HT5.out.2; rwa [HT.out.1] at this)))
        · have hml' : ¬ (m : Int) < 6 := by omega
          clear hcz hfz hall
          go_wp2_with fail
          go_ret
          exact .no HCZ.out ((HFA.out _).trans HFZ.out (fun _ _ h => h)) (fun h => by
            have h' := HAB2.out.1 h
            obtain ⟨x, hx, hx2⟩ := is_some h'.1
            exact HALL.out x (by have : x < 6 := hx; omega) hx hx2 h)
    · have HAB2 := Lib.hid (HAB.out.trans (by rw [if_pos rfl]))
      go_wp2_with fail
      refine HRQ.out.mono ?_
      rintro e w5 ⟨hc5, hf5, h5⟩
      have HC5 := Lib.hid hc5
      have HF5 := Lib.hid hf5
      clear hc5 hf5
      rcases h5 with ⟨rfl, hno5⟩ | ⟨b5, t5, rfl, hb5, ht5, hd5⟩
      · go_wp2_with fail
        go_ret
        exact .no HC5.out HF5.out (fun h => hno5 (HAB2.out.1 h))
      · have HT5 := Lib.hid (And.intro ht5 hd5)
        clear ht5 hd5
        go_wp2_with fail
        go_ret
        exact IsRes.ab (IsRes.two HC5.out HF5.out (t := .isin ta BN t5) (x := ba) (y := b5) (kd := Bags.str "in") (sg := []) (txt := []) (of_ := []) (as_ := []) (nm := 0) (st := false) (nt := BN) (al := false) rfl
          (fun w2 h2 hf2 => ⟨ba, b5, (HTA.out.1.fr HF5.out hM).fr hf2 hM, HT5.out.1.fr hf2 hM, h2⟩) (HD.out (by trivial) _ HT5.out.2))
end Go.Proofs.YtoephflcjllaaaaGreatDoor
