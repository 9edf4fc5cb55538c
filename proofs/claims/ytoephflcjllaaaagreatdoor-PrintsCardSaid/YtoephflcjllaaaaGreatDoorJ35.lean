/- Walks of the reference's cutter: query. -/
import Derived.Test.YtoephflcjllaaaaGreatDoorJ34
import Derived.Deep.CutRange
namespace Go.Proofs.YtoephflcjllaaaaGreatDoor
open Go.RowKit

theorem str_all : Bags.str "all" = bs ⟨#[97, 108, 108]⟩ := by decide
/-- What stands behind union, intersect, except at q. -/
def AfterOp (ws : List Bags.W) (q j : Nat) : Prop := ((Bags.wd ws (q + 1)).is 1 [Bags.str "all"] = true ∧ Bags.Has ws .core (q + 2) j) ∨ ((Bags.wd ws (q + 1)).is 1 [Bags.str "all"] = false ∧ Bags.Has ws .core (q + 1) j)
theorem ops_len : Bags.setOps.length = 3 := rfl

set_option maxRecDepth 100000 in
set_option maxHeartbeats 8000000 in
theorem query_ref {c : Ctx} {N : Nat} (hI : IsOK c N) {i j : Nat} (hij : i < j) (hj : j ≤ c.n) (hN : rank 0 i j ≤ N) (w : World) (h : CS c w) :
    Calls Tryz.prog 84 #[.pointer (some ⟨c.C, 0, none⟩), .int .i64 i, .int .i64 j] w (IsRes c .query i j w) := by
  have hn := h.pos.2
  have HIS := Lib.hid hI
  have h1 : Calls Tryz.prog 42 #[.pointer (some ⟨c.C, 0, none⟩), .int .i64 1, .int .i64 i, .int .i64 j] w (IsRes c .core i j w) :=
    hI 1 i j w (by decide) (Nat.lt_of_lt_of_le (rank_same (by decide)) hN) (by omega) (by omega) h
  have H1 := Lib.hid h1
  clear hI h1 h
  go_enter Tryz.func84, Tryz.ntmps84
  go_wp2_with fail
  refine H1.out.mono ?_
  rintro e w1 ⟨hc, hf, hr⟩
  have HC1 := Lib.hid hc
  have HF1 := Lib.hid hf
  have hfd : ∃ v, e = .returned v ∧ Found c .query i j (¬ Bags.Has c.ws .core i j) v w1 := by
    rcases hr with ⟨rfl, hno⟩ | ⟨b, t, rfl, hb, ht, hd⟩
    · exact ⟨_, rfl, .inl ⟨rfl, hno⟩⟩
    · exact ⟨_, rfl, .inr ⟨b, t, rfl, hb, ht, hd.q1⟩⟩
  obtain ⟨v0, rfl, hfd⟩ := hfd
  obtain ⟨q0, rfl⟩ := hfd.shape
  have HFD := Lib.hid hfd
  have hsz1 := hf.size
  clear hc hf hr hfd
  have HG := Lib.hid (show Blk (w1.alloc (.cells #[.string ⟨#[117, 110, 105, 111, 110]⟩, .string ⟨#[105, 110, 116, 101, 114, 115, 101, 99, 116]⟩, .string ⟨#[101, 120, 99, 101, 112, 116]⟩] 9)) w1.heap.size 9 (Bags.setOps.map strV).toArray from Blk.made _ _ _)
  have hgM : w1.heap.size ≠ c.M := by have := HC1.out.lt.2.2.1; have := HC1.out.size; omega
  have HFA := Lib.hid (show Fr (· = c.M) w1 (w1.alloc (.cells #[.string ⟨#[117, 110, 105, 111, 110]⟩, .string ⟨#[105, 110, 116, 101, 114, 115, 101, 99, 116]⟩, .string ⟨#[101, 120, 99, 101, 112, 116]⟩] 9)) from (Fr.refl _ _).alloc _)
  go_wp2_with fail
  go_loopw [7, 9] (fun tv pv wr => ∃ p : Nat, pv = .int .i64 p ∧ i + 1 ≤ p ∧ p ≤ j ∧ CS c wr ∧ Fr (· = c.M) (w1.alloc (.cells #[.string ⟨#[117, 110, 105, 111, 110]⟩, .string ⟨#[105, 110, 116, 101, 114, 115, 101, 99, 116]⟩, .string ⟨#[101, 120, 99, 101, 112, 116]⟩] 9)) wr ∧ Found c .query i j (¬ Bags.Has c.ws .core i j ∧ ∀ q, i < q → q < p → (Bags.wd c.ws q).is 1 Bags.setOps = true → Bags.Has c.ws .query i q → ¬ AfterOp c.ws q j) tv wr) (fun _ pv _ => j - (intOf pv).toNat)
  case atStart => exact ⟨i + 1, by simp, Nat.le_refl _, hij, HC1.out.alloc _, Fr.refl _ _, (HFD.out.fr HFA.out HC1.out.lt.2.2.1).imp fun h => ⟨h, fun q h1 h2 => absurd h2 (by omega)⟩⟩
  case round =>
    rename_i wr
    obtain ⟨p, rfl, hp1, hp2, hc, hf, hfd⟩ := hrel
    obtain ⟨qv, rfl⟩ := hfd.shape
    have HC := Lib.hid hc
    have HF := Lib.hid hf
    have HFF := Lib.hid ((HF1.out.trans HFA.out (fun _ _ h => h)).trans hf (fun _ _ h => h))
    have HFD2 := Lib.hid hfd
    clear hc hf hfd
    by_cases hlt : p < j
    · have hlt' : (p : Int) < (j : Int) := by omega
      rcases HFD2.out with ⟨hqv, hno, hall⟩ | ⟨b, t, hqv, hb, ht, hd⟩
      · injection hqv with hqv
        subst hqv
        have HNO := Lib.hid (And.intro hno hall)
        clear hno hall
        go_wp2_with fail
        go_loopw [7, 10] (fun tv kv wz => ∃ m : Nat, kv = .int .i64 m ∧ m ≤ 3 ∧ CS c wz ∧ Fr (· = c.M) (w1.alloc (.cells #[.string ⟨#[117, 110, 105, 111, 110]⟩, .string ⟨#[105, 110, 116, 101, 114, 115, 101, 99, 116]⟩, .string ⟨#[101, 120, 99, 101, 112, 116]⟩] 9)) wz ∧ Found c .query i j (∀ q (h : q < m) (h2 : q < Bags.setOps.length), (Bags.wd c.ws p).is 1 [Bags.setOps[q]] = true → Bags.Has c.ws .query i p → ¬ AfterOp c.ws p j) tv wz) (fun _ kv _ => 3 - (intOf kv).toNat)
        case atStart => exact ⟨0, rfl, by omega, HC.out, HF.out, .inl ⟨rfl, fun q h => absurd h (by omega)⟩⟩
        case round =>
          obtain ⟨m, rfl, hm, hcz, hfz, hfdz⟩ := hrel
          obtain ⟨qz, rfl⟩ := hfdz.shape
          have HCZ := Lib.hid hcz
          have HFZ := Lib.hid hfz
          have HFDZ := Lib.hid hfdz
          by_cases hml : m < 3
          · have hml' : (m : Int) < 3 := by omega
            have hml2 : m < Bags.setOps.length := hml
            have hm0 : (0 : Int) ≤ (m : Int) := by omega
            have hgz := HG.out.fr hfz hgM
            have s0 := hgz.cell m
            have hx : (Bags.setOps.map strV).toArray[m]? = some (.string (tx Bags.setOps[m])) := by simp [hml2, strV]
            rw [hx] at s0
            have hK := fun W h => key_any c W h p (tx Bags.setOps[m])
            have hA := fun W h => key_any c W h (p + 1) ⟨#[97, 108, 108]⟩
            rw [bs_tx] at hK
            rw [← str_all, show ((p + 1 : Nat) : Int) = (p : Int) + 1 by omega] at hA
            unfold ptr at hK hA
            have HTXT := Lib.hid (fun (h : (Bags.wd c.ws p).is 1 [Bags.setOps[m]] = true) => show (Bags.wd c.ws p).text = Bags.setOps[m] from Bags.is_one h)
            have HSTEP := Lib.hid (fun (h : (Bags.wd c.ws p).is 1 [Bags.setOps[m]] = true → Bags.Has c.ws .query i p → ¬ AfterOp c.ws p j) => show (∀ q (h : q < m) (h2 : q < Bags.setOps.length), (Bags.wd c.ws p).is 1 [Bags.setOps[q]] = true → Bags.Has c.ws .query i p → ¬ AfterOp c.ws p j) → ∀ q (h : q < m + 1) (h2 : q < Bags.setOps.length), (Bags.wd c.ws p).is 1 [Bags.setOps[q]] = true → Bags.Has c.ws .query i p → ¬ AfterOp c.ws p j from fun h0 q h1 h2 => by
              rcases Nat.lt_or_ge q m with h3 | h3
              · exact h0 q h3 h2
              · obtain rfl : q = m := by omega
                exact h)
            have HMEM := Lib.hid (show Bags.setOps[m] ∈ Bags.setOps from List.getElem_mem _)
            generalize hop : Bags.setOps[m] = OP at *
            generalize hb1 : (Bags.wd c.ws p).is 1 [OP] = B1 at hK
            generalize hb2 : (Bags.wd c.ws (p + 1)).is 1 [Bags.str "all"] = B2 at hA
            have HK := Lib.hid hK
            have HA1 := Lib.hid hA
            have HB := Lib.hid (And.intro hb1 hb2)
            clear hcz hfz hfdz hgz hx hK hA hop hb1 hb2
            cases B1
            · go_wp2_with fail
              refine (HK.out _ HCZ.out).mono ?_
              rintro e w2 ⟨rfl, rfl⟩
              go_wp2_with fail
              exact ⟨⟨m + 1, by simp, by omega, HCZ.out, HFZ.out, HFDZ.out.imp (HSTEP.out (fun h => by rw [HB.out.1] at h; cases h))⟩, by simp [intOf]; omega⟩
            · have hIS1 : ∀ W, CS c W → Calls Tryz.prog 42 #[.pointer (some ⟨c.C, 0, none⟩), .int .i64 0, .int .i64 i, .int .i64 p] W (IsRes c .query i p W) := fun W h =>
                HIS.out 0 i p W (by decide) (Nat.lt_of_lt_of_le (rank_lt (k := 0) (i := i) (j := j) (by omega)) hN) (by omega) (by omega) h
              have hIS2 : ∀ W, CS c W → Calls Tryz.prog 42 #[.pointer (some ⟨c.C, 0, none⟩), .int .i64 1, .int .i64 ((if B2 then p + 2 else p + 1 : Nat) : Int), .int .i64 j] W (IsRes c .core (if B2 then p + 2 else p + 1) j W) := fun W h =>
                HIS.out 1 (if B2 then p + 2 else p + 1) j W (by decide) (Nat.lt_of_lt_of_le (rank_lt (k := 0) (i := i) (j := j) (by split <;> omega)) hN) (by split <;> omega) (by omega) h
              have hAF : Bags.Has c.ws .core (if B2 then p + 2 else p + 1) j ↔ AfterOp c.ws p j := by
                unfold AfterOp
                rw [HB.out.2]
                cases B2 <;> simp
              have hDR := fun a b (ha : Bags.Der c.ws .query i p a) (hb : Bags.Der c.ws .core (if B2 then p + 2 else p + 1) j b) => show Bags.Der c.ws .query i j (.comb (Bags.wd c.ws p).text B2 a b) from by
                have hop : (Bags.wd c.ws p).is 1 Bags.setOps = true := is_of1 HB.out.1 HMEM.out
                cases B2
                · exact .q2 hop ha hb
                · exact .q3 hop HB.out.2 ha hb
              have HAF := Lib.hid hAF
              have HDR := Lib.hid hDR
              have hfrom : ((if B2 then p + 2 else p + 1 : Nat) : Int) = if B2 then (p : Int) + 2 else (p : Int) + 1 := by split <;> omega
              rw [hfrom] at hIS2
              have HIS1 := Lib.hid hIS1
              have HIS2 := Lib.hid hIS2
              clear hIS1 hIS2 hAF hDR hfrom
              cases B2
              all_goals
                simp only [Bool.false_eq_true, if_false, if_true] at HIS2
                go_wp2_with fail
                refine (HK.out _ HCZ.out).mono ?_
                rintro e w2 ⟨rfl, rfl⟩
                go_wp2_with fail
                refine (HA1.out _ HCZ.out).mono ?_
                rintro e w2 ⟨rfl, rfl⟩
                go_wp2_with fail
                refine (HIS1.out _ HCZ.out).mono ?_
                rintro e w4 ⟨hc4, hf4, h4⟩
                have HC4 := Lib.hid hc4
                have HF4 := Lib.hid hf4
                clear hc4 hf4
                rcases h4 with ⟨rfl, hno4⟩ | ⟨ba, ta, rfl, hba, hta, hda⟩
                · go_wp2_with fail
                  refine (HIS2.out _ HC4.out).mono ?_
                  rintro e w5 ⟨hc5, hf5, h5⟩
                  have HF5 := Lib.hid (HF4.out.trans hf5 (fun _ _ h => h))
                  have HC5 := Lib.hid hc5
                  clear hc5 hf5
                  rcases h5 with ⟨rfl, hno5⟩ | ⟨bb, tb, rfl, hbb, htb, hdb⟩
                  all_goals
                    try clear hno5
                    try clear htb hdb
                    go_wp2_with fail
                    exact ⟨⟨m + 1, by simp, by omega, HC5.out, HFZ.out.trans HF5.out (fun _ _ h => h), (HFDZ.out.imp (HSTEP.out (fun _ h => absurd h hno4))).fr HF5.out HCZ.out.lt.2.2.1⟩, by simp [intOf]; omega⟩
                · have HA := Lib.hid (And.intro hta hda)
                  clear hta hda
                  go_wp2_with fail
                  refine (HIS2.out _ HC4.out).mono ?_
                  rintro e w5 ⟨hc5, hf5, h5⟩
                  have HF45 := Lib.hid hf5
                  have HF5 := Lib.hid (HF4.out.trans hf5 (fun _ _ h => h))
                  have HC5 := Lib.hid hc5
                  clear hc5 hf5
                  rcases h5 with ⟨rfl, hno5⟩ | ⟨bb, tb, rfl, hbb, htb, hdb⟩
                  · go_wp2_with fail
                    exact ⟨⟨m + 1, by simp, by omega, HC5.out, HFZ.out.trans HF5.out (fun _ _ h => h), (HFDZ.out.imp (HSTEP.out (fun _ _ h => hno5 (HAF.out.2 h)))).fr HF5.out HCZ.out.lt.2.2.1⟩, by simp [intOf]; omega⟩
                  · have hg5 := HG.out.fr (HFZ.out.trans HF5.out (fun _ _ h => h)) hgM
                    have s5 := hg5.cell m
                    have hx : (Bags.setOps.map strV).toArray[m]? = some (.string (tx OP)) := by
                      have := s0
                      have h0 := (HG.out.fr HFZ.out hgM).cell m
                      rw [h0] at this
                      exact this
                    rw [hx] at s5
                    have HB5 := Lib.hid (And.intro htb hdb)
                    clear htb hdb hg5 hx
                    go_wp2_with fail
                    obtain ⟨r1, r2, r3⟩ := (IsRes.two (k := .query) (i := i) (j := j) (t := .comb (Bags.wd c.ws p).text _ ta tb) (x := ba) (y := bb) (kd := OP) (sg := []) (txt := []) (of_ := []) (as_ := []) (nm := 0) (st := false) (nt := false) HC5.out (HFZ.out.trans HF5.out (fun _ _ h => h)) rfl
                      (fun w2 hn2 hf2 => show tr w2 c.B _ _ from ⟨ba, bb, (HA.out.1.fr HF45.out HCZ.out.lt.2.2.1).fr hf2 HCZ.out.lt.2.2.1, HB5.out.1.fr hf2 HCZ.out.lt.2.2.1, by rw [HTXT.out HB.out.1]; exact hn2⟩)
                      (HDR.out _ _ HA.out.2 HB5.out.2)).found (no := ∀ q (h : q < m + 1) (h2 : q < Bags.setOps.length), (Bags.wd c.ws p).is 1 [Bags.setOps[q]] = true → Bags.Has c.ws .query i p → ¬ AfterOp c.ws p j) (fun h => absurd ⟨_, HDR.out _ _ HA.out.2 HB5.out.2⟩ h)
                    exact ⟨⟨m + 1, by simp, by omega, r1, r2, r3⟩, by simp [intOf]; omega⟩
          · have hml' : ¬ (m : Int) < 3 := by omega
            clear hcz hfz hfdz
            go_wp2_with fail
            exact ⟨⟨p + 1, by simp, by omega, by omega, HCZ.out, HFZ.out, HFDZ.out.imp fun h => ⟨HNO.out.1, fun q h1 h2 h3 h4 => by
              rcases Nat.lt_or_ge q p with h5 | h5
              · exact HNO.out.2 q h1 h5 h3 h4
              · obtain rfl : q = p := by omega
                obtain ⟨x, hx, hx2⟩ := is_some h3
                exact h x (by have : x < 3 := hx; omega) hx hx2 h4⟩⟩, by simp [intOf]; omega⟩
      · injection hqv with hqv
        subst hqv
        have HX := Lib.hid (And.intro ht hd)
        clear ht hd
        go_wp2_with fail
        go_ret
        exact ⟨HC.out, HFF.out, .inr ⟨b, t, rfl, hb, HX.out.1, HX.out.2⟩⟩
    · have hlt' : ¬ (p : Int) < (j : Int) := by omega
      go_wp2_with fail
      go_ret
      refine ⟨HC.out, HFF.out, ?_⟩
      rcases HFD2.out with ⟨hqv, hno, hall⟩ | ⟨b, t, hqv, hb, ht, hd⟩
      · rw [hqv]
        refine .inl ⟨rfl, fun h => ?_⟩
        rcases h.query with h | ⟨q, h1, h2, h3, h4, h5⟩
        · exact hno h
        · exact hall q h1 (by omega) h3 h4 h5
      · rw [hqv]
        exact .inr ⟨b, t, rfl, hb, ht, hd⟩
end Go.Proofs.YtoephflcjllaaaaGreatDoor
/- Walks of the reference's cutter: core. -/
namespace Go.Proofs.YtoephflcjllaaaaGreatDoor
open Go.RowKit

theorem str_select : Bags.str "select" = bs ⟨#[115, 101, 108, 101, 99, 116]⟩ := by decide
theorem str_distinct : Bags.str "distinct" = bs ⟨#[100, 105, 115, 116, 105, 110, 99, 116]⟩ := by decide
theorem str_from : Bags.str "from" = bs ⟨#[102, 114, 111, 109]⟩ := by decide
theorem str_star : Bags.str "*" = bs ⟨#[42]⟩ := by decide
theorem IsRes.at_ {c : Ctx} {k : Bags.K} {i j : Nat} {w w1 w2 : World} {b : Nat} {t : Bags.T} (hc : CS c w1) (hf : Fr (· = c.M) w w1) (hb : Below w1.heap.size w1 w2) (hB : c.B ≤ b) (ht : treeK w2 c.B k t b) (hd : Bags.Der c.ws k i j t) :
    IsRes c k i j w (.returned (.pointer (some ⟨b, 0, none⟩))) w2 :=
  ⟨hc.below hb, hf.trans (Fr.of_below (S := (· = c.M)) hb) (fun _ _ h => h), .inr ⟨b, t, rfl, hB, ht, hd⟩⟩

theorem optT.shape {w : World} {B : Nat} {t : Bags.T} {x : Value} (h : optT w B t x) : ∃ q, x = .pointer q := by
  rcases h with ⟨_, h⟩ | ⟨p, h, _⟩ <;> exact ⟨_, h⟩

set_option maxRecDepth 100000 in
set_option maxHeartbeats 8000000 in
theorem core_ref {c : Ctx} {N : Nat} (hI : IsOK c N) {i j : Nat} (hij : i < j) (hj : j ≤ c.n) (hN : rank 1 i j ≤ N) (w : World) (h : CS c w) :
    Calls Tryz.prog 85 #[.pointer (some ⟨c.C, 0, none⟩), .int .i64 i, .int .i64 j] w (IsRes c .core i j w) := by
  have hn := h.pos.2
  have hK1 := key_any c w h i ⟨#[115, 101, 108, 101, 99, 116]⟩
  rw [← str_select] at hK1
  unfold ptr at hK1
  have HH1 := Lib.hid (Bags.Has.core_round (ws := c.ws) (i := i) (j := j))
  have HH2 := Lib.hid (Bags.Has.core_sel (ws := c.ws) (i := i) (j := j))
  generalize hb1 : (Bags.wd c.ws i).is 1 [Bags.str "select"] = B1 at hK1
  have HB1 := Lib.hid hb1
  have HK1 := Lib.hid hK1
  have HC := Lib.hid h
  clear hK1 hb1
  cases B1
  · have hR : Calls Tryz.prog 110 #[.pointer (some ⟨c.C, 0, none⟩), .int .i64 0, .int .i64 i, .int .i64 j] w (RoundRes c .query i j w) :=
      round_any hI (k := 0) (by decide) (by omega) hj (by omega) (Nat.lt_of_lt_of_le (rank_lt (k := 1) (i := i) (j := j) (by omega)) hN) w h
    have HR := Lib.hid hR
    clear hR h hI
    go_enter Tryz.func85, Tryz.ntmps85
    go_wp2_with fail
    refine HK1.out.mono ?_
    rintro e w1 ⟨rfl, rfl⟩
    go_wp2_with fail
    refine HR.out.mono ?_
    rintro e w1 ⟨hc, hf, ⟨rfl, hno⟩ | ⟨b, t, rfl, hb, ht, hd⟩⟩
    · have HX := Lib.hid (And.intro hc (And.intro hf hno))
      clear hc hf hno
      go_wp2_with fail
      go_ret
      exact .no HX.out.1 HX.out.2.1 (fun h => HX.out.2.2 (HH1.out h HB1.out))
    · have HX := Lib.hid (And.intro hc (And.intro hf (And.intro ht hd)))
      clear hc hf ht hd
      go_wp2_with fail
      go_ret
      exact ⟨HX.out.1, HX.out.2.1, .inr ⟨b, t, rfl, hb, HX.out.2.2.1, .c1 HX.out.2.2.2⟩⟩
  · have hK2 := key_any c w h (i + 1) ⟨#[100, 105, 115, 116, 105, 110, 99, 116]⟩
    rw [← str_distinct, show ((i + 1 : Nat) : Int) = (i : Int) + 1 by omega] at hK2
    unfold ptr at hK2
    have hF : Bags.fromOf c.ws i = if (Bags.wd c.ws (i + 1)).is 1 [Bags.str "distinct"] then i + 2 else i + 1 := rfl
    have HD4 := Lib.hid (fun j f wh g h => Bags.Der.c4 (ws := c.ws) (i := i) (j := j) (f := f) (wh := wh) (g := g) (h := h) HB1.out)
    have HD2 := Lib.hid (fun p j it f wh g h => Bags.Der.c2 (ws := c.ws) (i := i) (p := p) (j := j) (it := it) (f := f) (wh := wh) (g := g) (h := h) HB1.out)
    generalize (Bags.wd c.ws (i + 1)).is 1 [Bags.str "distinct"] = BD at *
    generalize hFF : Bags.fromOf c.ws i = F at *
    have hF1 : BD = false → (F : Int) = (i : Int) + 1 := fun h => by rw [hF, h]; simp
    have hF2 : BD = true → (F : Int) = (i : Int) + 2 := fun h => by rw [hF, h]; simp
    have hF3 : i + 1 ≤ F ∧ F ≤ i + 2 := by rw [hF]; split <;> omega
    have HFX := Lib.hid (And.intro hF1 hF2)
    have HK2 := Lib.hid hK2
    have HIS := Lib.hid hI
    clear hK2 hF hF1 hF2 hFF hI h
    go_enter Tryz.func85, Tryz.ntmps85
    go_wp2_with fail
    refine HK1.out.mono ?_
    rintro e w1 ⟨rfl, rfl⟩
    go_wp2_with fail
    refine HK2.out.mono ?_
    rintro e w1 ⟨rfl, rfl⟩
    go_upto_if 31 with fail
    go_cut [9] from 29 to 33 (fun v wx => v = .int .i64 F ∧ w = wx)
    case first =>
      cases BD
      · have HQ := Lib.hid (HFX.out.1 rfl)
        go_wp2_with fail
        go_meet
        case rel => exact ⟨by rw [HQ.out], rfl⟩
      · have HQ := Lib.hid (HFX.out.2 rfl)
        go_wp2_with fail
        go_meet
        case rel => exact ⟨by rw [HQ.out], rfl⟩
    case rest =>
      obtain ⟨rfl, rfl⟩ := hcut
      have hFI : (F : Int) ≤ 402 := by omega
      go_wp2_with fail
      go_loopw [10] (fun pv wr => ∃ p : Nat, pv = .int .i64 p ∧ F + 1 ≤ p ∧ p ≤ j + 2 ∧ CS c wr ∧ Fr (· = c.M) w wr ∧ (∀ q, F < q → q < p → (Bags.wd c.ws q).is 1 [Bags.str "from"] = true → Bags.Has c.ws .tail (q + 1) j → ¬ ((q = F + 1 ∧ (Bags.wd c.ws F).is 5 [Bags.str "*"] = true) ∨ Bags.Has c.ws .items F q))) (fun pv _ => j + 2 - (intOf pv).toNat)
      case atStart => exact ⟨F + 1, by simp, Nat.le_refl _, by omega, HC.out, Fr.refl _ _, fun q h1 h2 => absurd h2 (by omega)⟩
      case round =>
        rename_i wr
        obtain ⟨p, rfl, hp1, hp2, hc, hf, hall⟩ := hrel
        have HCR := Lib.hid hc
        have HFR := Lib.hid hf
        have HALL := Lib.hid hall
        by_cases hlt : p < j
        · have hlt' : (p : Int) < (j : Int) := by omega
          have hK := key_any c wr hc p ⟨#[102, 114, 111, 109]⟩
          rw [← str_from] at hK
          unfold ptr at hK
          have HSTEP := Lib.hid (fun (h : (Bags.wd c.ws p).is 1 [Bags.str "from"] = true → Bags.Has c.ws .tail (p + 1) j → ¬ ((p = F + 1 ∧ (Bags.wd c.ws F).is 5 [Bags.str "*"] = true) ∨ Bags.Has c.ws .items F p)) => show ∀ q, F < q → q < p + 1 → (Bags.wd c.ws q).is 1 [Bags.str "from"] = true → Bags.Has c.ws .tail (q + 1) j → ¬ ((q = F + 1 ∧ (Bags.wd c.ws F).is 5 [Bags.str "*"] = true) ∨ Bags.Has c.ws .items F q) from fun q h1 h2 => by
            rcases Nat.lt_or_ge q p with h3 | h3
            · exact HALL.out q h1 h3
            · obtain rfl : q = p := by omega
              exact h)
          generalize hbf : (Bags.wd c.ws p).is 1 [Bags.str "from"] = BF at hK
          have HBF := Lib.hid hbf
          have HK := Lib.hid hK
          clear hc hf hall hK hbf
          cases BF
          · go_wp2_with fail
            refine HK.out.mono ?_
            rintro e w2 ⟨rfl, rfl⟩
            go_wp2_with fail
            exact ⟨⟨p + 1, by simp, by omega, by omega, HCR.out, HFR.out, HSTEP.out (fun h => by rw [HBF.out] at h; cases h)⟩, by simp [intOf]; omega⟩
          · have hIS1 : ∀ W, CS c W → Calls Tryz.prog 42 #[.pointer (some ⟨c.C, 0, none⟩), .int .i64 5, .int .i64 F, .int .i64 p] W (IsRes c .items F p W) := fun W h =>
              HIS.out 5 F p W (by decide) (Nat.lt_of_lt_of_le (rank_lt (k := 1) (i := i) (j := j) (by omega)) hN) (by omega) (by omega) h
            have hIS2 : ∀ W, CS c W → Calls Tryz.prog 42 #[.pointer (some ⟨c.C, 0, none⟩), .int .i64 2, .int .i64 (p + 1 : Nat), .int .i64 j] W (IsRes c .tail (p + 1) j W) := fun W h =>
              HIS.out 2 (p + 1) j W (by decide) (Nat.lt_of_lt_of_le (rank_lt (k := 1) (i := i) (j := j) (by omega)) hN) (by omega) (by omega) h
            simp only [show ((p + 1 : Nat) : Int) = (p : Int) + 1 by omega] at hIS2
            have hS := fun W h => sign_any c W h F ⟨#[42]⟩
            rw [← str_star] at hS
            unfold ptr at hS
            -- is it a star?
            have hst : ∃ BS : Bool, (BS = true ↔ (p = F + 1 ∧ (Bags.wd c.ws F).is 5 [Bags.str "*"] = true)) := ⟨decide (p = F + 1 ∧ (Bags.wd c.ws F).is 5 [Bags.str "*"] = true), by simp⟩
            obtain ⟨BS, hBS⟩ := hst
            have HBS := Lib.hid hBS
            have HIS1 := Lib.hid hIS1
            have HIS2 := Lib.hid hIS2
            have HS := Lib.hid hS
            clear hIS1 hIS2 hS hBS
            go_wp2_with fail
            refine HK.out.mono ?_
            rintro e w2 ⟨rfl, rfl⟩
            go_upto_region 13 with fail
            go_cut [12] from 36 to 103 (fun v wx => v = .bool BS ∧ wr = wx)
            case first =>
              by_cases hpF : p = F + 1
              · have e1 : ((p : Int) == (F : Int) + 1) = true := by simp; omega
                generalize hbs : (Bags.wd c.ws F).is 5 [Bags.str "*"] = B5 at *
                have HB5 := Lib.hid hbs
                have hres : BS = B5 := by
                  have := HBS.out
                  cases BS <;> cases B5 <;> simp [hpF] at this <;> rfl
                subst hres
                clear hbs hpF
                go_wp2_with fail
                refine (HS.out _ HCR.out).mono ?_
                rintro e w2 ⟨rfl, rfl⟩
                go_wp2_with fail
                go_meet
                case rel => exact ⟨rfl, rfl⟩
              · have e1 : ((p : Int) == (F : Int) + 1) = false := beq_eq_false_iff_ne.2 (by omega)
                have hres : BS = false := by
                  have := HBS.out
                  cases BS
                  · rfl
                  · exact absurd (this.1 (by trivial)).1 hpF
                subst hres
                go_wp2_with fail
                go_meet
                case rel => exact ⟨rfl, rfl⟩
            case rest =>
              obtain ⟨rfl, rfl⟩ := hcut
              go_wp2_with fail
              refine (HIS1.out _ HCR.out).mono ?_
              rintro e w4 ⟨hc4, hf4, h4⟩
              have HC4 := Lib.hid hc4
              have HF4 := Lib.hid (HFR.out.trans hf4 (fun _ _ h => h))
              clear hc4 hf4
              have hl : ∃ q, e = .returned (.pointer q) := by rcases h4 with ⟨rfl, _⟩ | ⟨b, t, rfl, _⟩ <;> exact ⟨_, rfl⟩
              obtain ⟨ql, rfl⟩ := hl
              have H4 := Lib.hid h4
              clear h4
              go_wp2_with fail
              refine (HIS2.out _ HC4.out).mono ?_
              rintro e w5 ⟨hc5, hf5, h5⟩
              have HF45 := Lib.hid hf5
              have HF5 := Lib.hid (HF4.out.trans hf5 (fun _ _ h => h))
              have HC5 := Lib.hid hc5
              clear hc5 hf5
              rcases h5 with ⟨rfl, hno5⟩ | ⟨bt, tt, rfl, hbt, htt, hdt⟩
              · go_wp2_with fail
                exact ⟨⟨p + 1, by simp, by omega, by omega, HC5.out, HF5.out, HSTEP.out (fun _ h => absurd h hno5)⟩, by simp [intOf]; omega⟩
              · obtain ⟨f, wh, g, hv, rfl, vf, pf, xw, vg, pg, xh, _, htf, hkf, hwh, htg, hkg, hhv, hblk⟩ := htt
                obtain ⟨bvf, pvf, rfl⟩ := own_slice hkf
                obtain ⟨bvg, pvg, rfl⟩ := own_slice hkg
                obtain ⟨qw, rfl⟩ := hwh.shape
                obtain ⟨qh, rfl⟩ := hhv.shape
                have t12 := hblk.cell 12
                have t13 := hblk.cell 13
                have t14 := hblk.cell 14
                have t15 := hblk.cell 15
                unfold treeC at t12 t13 t14 t15
                simp at t12 t13 t14 t15
                have HTT := Lib.hid (And.intro htf (And.intro hkf (And.intro hwh (And.intro htg (And.intro hkg hhv)))))
                have HDT := Lib.hid hdt
                clear htf hkf hwh htg hkg hhv hblk hdt
                cases BS
                · rcases H4.out with ⟨hql, hno4⟩ | ⟨bl, tl, hql, hbl, htl, hdl⟩
                  · injection hql with hql
                    injection hql with hql
                    subst hql
                    go_wp2_with fail
                    exact ⟨⟨p + 1, by simp, by omega, by omega, HC5.out, HF5.out, HSTEP.out (fun _ _ h => by
                      rcases h with h | h
                      · exact absurd (HBS.out.2 h) (by decide)
                      · exact hno4 h)⟩, by simp [intOf]; omega⟩
                  · injection hql with hql
                    injection hql with hql
                    subst hql
                    obtain ⟨ks, hks, htk, bl', vl, hbl', _, hkv, hlblk⟩ := (row_tree (k := .items) (k' := .item) rfl _ _ _ _).1 (htl.fr HF45.out HCR.out.lt.2.2.1)
                    injection hbl' with hbl'
                    subst hbl'
                    obtain ⟨bvl, pvl, rfl⟩ := own_slice hkv
                    have l10 := hlblk.cell 10
                    unfold treeC at l10
                    simp at l10
                    have l10' := fun o => cell_alloc l10 o
                    have HLT := Lib.hid (And.intro hks (And.intro htk (And.intro hkv hdl)))
                    clear hks htk hkv hlblk hdl htl
                    go_wp2_with fail
                    go_region_held3 (fun w' => w'.cell? ⟨bt, 12, none⟩ = some (.slice bvf pf.length pvf) ∧ w'.cell? ⟨bt, 13, none⟩ = some (.slice bvg pg.length pvg) ∧ w'.cell? ⟨bt, 14, none⟩ = some (.pointer qw) ∧ w'.cell? ⟨bt, 15, none⟩ = some (.pointer qh))
                      (first | exact ⟨t12, t13, t14, t15⟩ | exact ⟨cell_alloc t12 _, cell_alloc t13 _, cell_alloc t14 _, cell_alloc t15 _⟩ | go_keep) (fail)
                    all_goals go_wp2_with fail
                    go_ret
                    refine IsRes.drew (IsRes.at_ HC5.out HF5.out ((Below.refl _ _).alloc (Nat.le_refl _) _) HC5.out.size (t := .sel BD tl f wh g hv) ?_ (HD2.out _ _ _ _ _ _ _ HBF.out HLT.out.2.2.2 HDT.out))
                    have hf2 : ∀ o, Fr (· = c.M) w5 (w5.alloc o) := fun o => (Fr.refl _ _).alloc o
                    have hM := HCR.out.lt.2.2.1
                    exact ⟨_, _, ks, _, pf, _, _, pg, _, rfl, HC5.out.size, HLT.out.2.1.fr (hf2 _) hM, HLT.out.2.2.1.fr (hf2 _) hM, HTT.out.1.fr (hf2 _) hM, HTT.out.2.1.fr (hf2 _) hM, HTT.out.2.2.1.fr (hf2 _) hM, HTT.out.2.2.2.1.fr (hf2 _) hM, HTT.out.2.2.2.2.1.fr (hf2 _) hM, HTT.out.2.2.2.2.2.fr (hf2 _) hM, .inr HLT.out.1,
                      by rw [decide_eq_false HLT.out.1]; exact Blk.made _ _ _⟩
                · go_wp2_with fail
                  go_region_held3 (fun w' => w'.cell? ⟨bt, 12, none⟩ = some (.slice bvf pf.length pvf) ∧ w'.cell? ⟨bt, 13, none⟩ = some (.slice bvg pg.length pvg) ∧ w'.cell? ⟨bt, 14, none⟩ = some (.pointer qw) ∧ w'.cell? ⟨bt, 15, none⟩ = some (.pointer qh))
                    (first | exact ⟨t12, t13, t14, t15⟩ | exact ⟨cell_alloc t12 _, cell_alloc t13 _, cell_alloc t14 _, cell_alloc t15 _⟩ | go_keep) (fail)
                  all_goals go_wp2_with fail
                  go_ret
                  obtain ⟨hpF, hst⟩ := HBS.out.1 (by trivial)
                  subst hpF
                  refine IsRes.drew (IsRes.at_ HC5.out HF5.out ((Below.refl _ _).alloc (Nat.le_refl _) _) HC5.out.size (t := .sel BD .none f wh g hv) ?_ (HD4.out _ _ _ _ _ hst HBF.out HDT.out))
                  have hf2 : ∀ o, Fr (· = c.M) w5 (w5.alloc o) := fun o => (Fr.refl _ _).alloc o
                  have hM := HCR.out.lt.2.2.1
                  exact ⟨_, _, [], _, pf, _, _, pg, _, rfl, HC5.out.size, rfl, kids0, HTT.out.1.fr (hf2 _) hM, HTT.out.2.1.fr (hf2 _) hM, HTT.out.2.2.1.fr (hf2 _) hM, HTT.out.2.2.2.1.fr (hf2 _) hM, HTT.out.2.2.2.2.1.fr (hf2 _) hM, HTT.out.2.2.2.2.2.fr (hf2 _) hM, .inl rfl, Blk.made _ _ _⟩
        · have hlt' : ¬ (p : Int) < (j : Int) := by omega
          clear hc hf hall
          go_wp2_with fail
          go_ret
          exact .no HCR.out HFR.out (fun h => by
            obtain ⟨q, h1, h2, h3, h4, h5⟩ := HH2.out h HB1.out
            exact HALL.out q h1 (by omega) h3 h4 h5)
end Go.Proofs.YtoephflcjllaaaaGreatDoor
