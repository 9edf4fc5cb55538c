/- Walks of the reference's cutter: basic, factor. -/
import Derived.Test.YtoephflcjllaaaaGreatDoorJ37
namespace Go.Proofs.YtoephflcjllaaaaGreatDoor
open Go.RowKit

theorem str_exists : Bags.str "exists" = bs ⟨#[101, 120, 105, 115, 116, 115]⟩ := by decide
theorem str_minus : Bags.str "-" = bs ⟨#[45]⟩ := by decide
theorem about_any {c : Ctx} {N : Nat} (hI : IsOK c N) {i p j : Nat} (hip : i < p) (hpj : p < j) (hj : j ≤ c.n) (hN : rank 14 i j ≤ N) (w : World) (h : CS c w) {ba : Nat} {ta : Bags.T} (hta : tr w c.B ta [ba]) (hda : Bags.Der c.ws .expr i p ta) :
    Calls Tryz.prog 113 #[.pointer (some ⟨c.C, 0, none⟩), .pointer (some ⟨ba, 0, none⟩), .int .i64 p, .int .i64 j] w (AbRes c i p j w) := by
  cases hb : (Bags.wd c.ws p).is 1 [Bags.str "is"] with
  | true => exact about_is hpj hj w h hta hda hb
  | false => exact about_no hI hip hpj hj hN w h hta hda hb

set_option maxRecDepth 100000 in
set_option maxHeartbeats 8000000 in
theorem basic_ref {c : Ctx} {N : Nat} (hI : IsOK c N) {i j : Nat} (hij : i < j) (hj : j ≤ c.n) (hN : rank 14 i j ≤ N) (w : World) (h : CS c w) :
    Calls Tryz.prog 93 #[.pointer (some ⟨c.C, 0, none⟩), .int .i64 i, .int .i64 j] w (IsRes c .basic i j w) := by
  have hn := h.pos.2
  have hM := h.lt.2.2.1
  have hK := key_any c w h i ⟨#[101, 120, 105, 115, 116, 115]⟩
  rw [← str_exists] at hK
  unfold ptr at hK
  have HH := Lib.hid (Bags.Has.basic (ws := c.ws) (i := i) (j := j))
  generalize hbe : (Bags.wd c.ws i).is 1 [Bags.str "exists"] = BE at *
  have HBE := Lib.hid hbe
  have HK := Lib.hid hK
  have HC := Lib.hid h
  have HIS := Lib.hid hI
  cases BE
  · have hR : Calls Tryz.prog 110 #[.pointer (some ⟨c.C, 0, none⟩), .int .i64 11, .int .i64 i, .int .i64 j] w (RoundRes c .cond i j w) :=
      round_any hI (k := 11) (by decide) (by omega) hj (by omega) (Nat.lt_of_lt_of_le (rank_lt (k := 14) (i := i) (j := j) (by omega)) hN) w h
    have HR := Lib.hid hR
    clear hR h hI hK hbe
    go_enter Tryz.func93, Tryz.ntmps93
    go_wp2_with fail
    refine HK.out.mono ?_
    rintro e w1 ⟨rfl, rfl⟩
    go_wp2_with fail
    refine HR.out.mono ?_
    rintro e w1 ⟨hc, hf, hr⟩
    have HC1 := Lib.hid hc
    have HF1 := Lib.hid hf
    have hfd : ∃ v, e = .returned v ∧ Found c .basic i j (¬ ∃ t, Bags.Rnd c.ws .cond i j t) v w1 := by
      rcases hr with ⟨rfl, hno⟩ | ⟨b, t, rfl, hb, ht, hd⟩
      · exact ⟨_, rfl, .inl ⟨rfl, hno⟩⟩
      · exact ⟨_, rfl, .inr ⟨b, t, rfl, hb, ht, .b2 hd⟩⟩
    obtain ⟨v0, rfl, hfd⟩ := hfd
    obtain ⟨q0, rfl⟩ := hfd.shape
    have HFD := Lib.hid hfd
    clear hc hf hr hfd
    go_wp2_with fail
    go_loopw [9, 10] (fun tv pv wr => ∃ p : Nat, pv = .int .i64 p ∧ i + 1 ≤ p ∧ p ≤ j ∧ CS c wr ∧ Fr (· = c.M) w wr ∧ Found c .basic i j ((¬ ∃ t, Bags.Rnd c.ws .cond i j t) ∧ ∀ q, i < q → q < p → Bags.Has c.ws .expr i q → ¬ Bags.About c.ws q j) tv wr) (fun _ pv _ => j - (intOf pv).toNat)
    case atStart => exact ⟨i + 1, by simp, Nat.le_refl _, hij, HC1.out, HF1.out, HFD.out.imp fun h => ⟨h, fun q h1 h2 => absurd h2 (by omega)⟩⟩
    case round =>
      rename_i wr
      obtain ⟨p, rfl, hp1, hp2, hc, hf, hfd⟩ := hrel
      obtain ⟨qv, rfl⟩ := hfd.shape
      have HCR := Lib.hid hc
      have HFR := Lib.hid hf
      have HFD2 := Lib.hid hfd
      clear hc hf hfd
      by_cases hlt : p < j
      · have hlt' : (p : Int) < (j : Int) := by omega
        rcases HFD2.out with ⟨hqv, hno, hall⟩ | ⟨b, t, hqv, hb, ht, hd⟩
        · injection hqv with hqv
          subst hqv
          have HNO := Lib.hid hno
          have HSTEP := Lib.hid (fun (h : Bags.Has c.ws .expr i p → ¬ Bags.About c.ws p j) => show ∀ q, i < q → q < p + 1 → Bags.Has c.ws .expr i q → ¬ Bags.About c.ws q j from fun q h1 h2 => by
            rcases Nat.lt_or_ge q p with h3 | h3
            · exact hall q h1 h3
            · obtain rfl : q = p := by omega
              exact h)
          have hIS1 : ∀ W, CS c W → Calls Tryz.prog 42 #[.pointer (some ⟨c.C, 0, none⟩), .int .i64 15, .int .i64 i, .int .i64 p] W (IsRes c .expr i p W) := fun W h =>
            HIS.out 15 i p W (by decide) (Nat.lt_of_lt_of_le (rank_lt (k := 14) (i := i) (j := j) (by omega)) hN) (by omega) (by omega) h
          have HIS1 := Lib.hid hIS1
          clear hno hall hIS1
          go_wp2_with fail
          refine (HIS1.out _ HCR.out).mono ?_
          rintro e w4 ⟨hc4, hf4, h4⟩
          have HC4 := Lib.hid hc4
          have HF4 := Lib.hid (HFR.out.trans hf4 (fun _ _ h => h))
          clear hc4 hf4
          rcases h4 with ⟨rfl, hno4⟩ | ⟨ba, ta, rfl, hba, hta, hda⟩
          · go_wp2_with fail
            exact ⟨⟨p + 1, by simp, by omega, by omega, HC4.out, HF4.out, .inl ⟨rfl, HNO.out, HSTEP.out (fun h => absurd h hno4)⟩⟩, by simp [intOf]; omega⟩
          · have HAB := Lib.hid (about_any HIS.out (by omega) hlt hj hN w4 HC4.out hta hda)
            clear hta hda
            go_wp2_with fail
            refine HAB.out.mono ?_
            rintro e w5 ⟨hc5, hf5, h5⟩
            have HC5 := Lib.hid hc5
            have HF5 := Lib.hid (HF4.out.trans hf5 (fun _ _ h => h))
            clear hc5 hf5
            rcases h5 with ⟨rfl, hno5⟩ | ⟨b5, t5, rfl, hb5, ht5, hd5⟩
            · go_wp2_with fail
              exact ⟨⟨p + 1, by simp, by omega, by omega, HC5.out, HF5.out, .inl ⟨rfl, HNO.out, HSTEP.out (fun _ => hno5)⟩⟩, by simp [intOf]; omega⟩
            · have HT5 := Lib.hid (And.intro ht5 hd5)
              clear ht5 hd5
              go_wp2_with fail
              exact ⟨⟨p + 1, by simp, by omega, by omega, HC5.out, HF5.out, .inr ⟨b5, t5, rfl, hb5, HT5.out.1, HT5.out.2⟩⟩, by simp [intOf]; omega⟩
        · injection hqv with hqv
          subst hqv
          have HX := Lib.hid (And.intro ht hd)
          clear ht hd
          go_wp2_with fail
          go_ret
          exact ⟨HCR.out, HFR.out, .inr ⟨b, t, rfl, hb, HX.out.1, HX.out.2⟩⟩
      · have hlt' : ¬ (p : Int) < (j : Int) := by omega
        go_wp2_with fail
        go_ret
        refine ⟨HCR.out, HFR.out, ?_⟩
        rcases HFD2.out with ⟨hqv, hno, hall⟩ | ⟨b, t, hqv, hb, ht, hd⟩
        · rw [hqv]
          refine .inl ⟨rfl, fun h => ?_⟩
          rcases HH.out h with h | ⟨_, h | ⟨q, h1, h2, h3, h4⟩⟩
          · exact absurd h.1 (by decide)
          · exact hno h
          · exact hall q h1 (by omega) h3 h4
        · rw [hqv]
          exact .inr ⟨b, t, rfl, hb, ht, hd⟩
  · have hR : Calls Tryz.prog 110 #[.pointer (some ⟨c.C, 0, none⟩), .int .i64 0, .int .i64 (i + 1 : Nat), .int .i64 j] w (RoundRes c .query (i + 1) j w) :=
      round_any hI (k := 0) (by decide) (by omega) hj (by omega) (Nat.lt_of_lt_of_le (rank_lt (k := 14) (i := i) (j := j) (by omega)) hN) w h
    rw [show ((i + 1 : Nat) : Int) = (i : Int) + 1 by omega] at hR
    have HR := Lib.hid hR
    clear hR h hI hK hbe
    go_enter Tryz.func93, Tryz.ntmps93
    go_wp2_with fail
    refine HK.out.mono ?_
    rintro e w1 ⟨rfl, rfl⟩
    go_wp2_with fail
    refine HR.out.mono ?_
    rintro e w1 ⟨hc, hf, ⟨rfl, hno⟩ | ⟨b, t, rfl, hb, ht, hd⟩⟩
    · have HX := Lib.hid (And.intro hc (And.intro hf hno))
      clear hc hf hno
      go_wp2_with fail
      go_ret
      exact .no HX.out.1 HX.out.2.1 (fun h => by
        rcases HH.out h with h | h
        · exact HX.out.2.2 h.2
        · exact absurd h.1 (by decide))
    · have HX := Lib.hid (And.intro hc (And.intro hf (And.intro ht hd)))
      clear hc hf ht hd
      go_wp2_with fail
      go_ret
      exact IsRes.one HX.out.1 HX.out.2.1 (t := .exist t) (kd := Bags.str "exists") (sg := []) (txt := []) (of_ := []) (as_ := []) (nm := 0) (st := false) (nt := false) (al := false) rfl (fun w2 h2 hf2 => ⟨b, HX.out.2.2.1.fr hf2 hM, h2⟩) (.b1 HBE.out HX.out.2.2.2)

theorem fns_len : Bags.fns.length = 4 := rfl
set_option maxRecDepth 100000 in
set_option maxHeartbeats 8000000 in
theorem factor_ref {c : Ctx} {N : Nat} (hI : IsOK c N) {i j : Nat} (hij : i < j) (hj : j ≤ c.n) (hN : rank 17 i j ≤ N) (w : World) (h : CS c w) :
    Calls Tryz.prog 94 #[.pointer (some ⟨c.C, 0, none⟩), .int .i64 i, .int .i64 j] w (IsRes c .factor i j w) := by
  have hn := h.pos.2
  have hM := h.lt.2.2.1
  have hK := sign_any c w h i ⟨#[45]⟩
  rw [← str_minus] at hK
  unfold ptr at hK
  have hHH := Bags.Has.factor (ws := c.ws) (i := i) (j := j)
  generalize hbm : (Bags.wd c.ws i).is 5 [Bags.str "-"] = BM at *
  have HH := Lib.hid hHH
  have HBM := Lib.hid hbm
  have HK := Lib.hid hK
  have HC := Lib.hid h
  have HIS := Lib.hid hI
  clear hHH
  cases BM
  · have hh2 : Bags.Has c.ws .factor i j → ((j = i + 1 ∧ ((Bags.wd c.ws i).sort = 3 ∨ (Bags.wd c.ws i).sort = 4 ∨ (Bags.wd c.ws i).is 1 [Bags.str "null"] = true)) ∨
      (if (Bags.wd c.ws i).is 1 Bags.fns = true then Bags.Star c.ws i j ∨ ∃ t, Bags.Rnd c.ws .expr (i + 1) j t else (∃ t, Bags.Rnd c.ws .expr i j t) ∨ Bags.Has c.ws .col i j)) := fun h => by
      have := HH.out h
      rwa [if_neg (by decide)] at this
    have HH2 := Lib.hid hh2
    clear hh2
    obtain ⟨wt0, wt1, wt2⟩ := h.word (show i < c.n by omega)
    have c0 := h.blk.cell 0
    have hcap := h.capn
    unfold maxLen at hcap
    simp at c0
    have hi0 : (0 : Int) ≤ (i : Int) := by omega
    have hin : (i : Int) < (c.n : Int) := by omega
    have hKU := fun W h => key_any c W h i ⟨#[110, 117, 108, 108]⟩
    rw [← str_nullw] at hKU
    unfold ptr at hKU
    have e3 := sort_num (Bags.wd c.ws i).sort
    have e4 := sort_text (Bags.wd c.ws i).sort
    have hb3 : ((Bags.wd c.ws i).sort == 3) = true ↔ (Bags.wd c.ws i).sort = 3 := by simp
    have hb4 : ((Bags.wd c.ws i).sort == 4) = true ↔ (Bags.wd c.ws i).sort = 4 := by simp
    generalize ((Bags.wd c.ws i).sort == 3) = B3 at *
    generalize ((Bags.wd c.ws i).sort == 4) = B4 at *
    generalize hbu : (Bags.wd c.ws i).is 1 [Bags.str "null"] = BU at *
    have HB := Lib.hid (And.intro hb3 (And.intro hb4 hbu))
    have HKU := Lib.hid hKU
    have HFA := Lib.hid (fun o => ((Fr.refl (· = c.M) w).alloc o))
    clear hK h hI hbm hKU hb3 hb4 hbu
    go_enter Tryz.func94, Tryz.ntmps94
    go_wp2_with fail
    refine HK.out.mono ?_
    rintro e w1 ⟨rfl, rfl⟩
    go_upto_if 35 with fail
    go_cut [] from 9 to 65 (fun wx => CS c wx ∧ Fr (· = c.M) w wx ∧ (j = i + 1 → ¬ ((Bags.wd c.ws i).sort = 3 ∨ (Bags.wd c.ws i).sort = 4 ∨ BU = true)))
    case first =>
      by_cases hj1 : j = i + 1
      · have HJ := Lib.hid hj1
        have hj1b : ((j : Int) == (i : Int) + 1) = true := by simp; omega
        have hcells := HC.out.alloc (.cells #[.string (sortB (Bags.wd c.ws i).sort), .string (tx (Bags.wd c.ws i).text), .int .i64 (Bags.wd c.ws i).num] 98)
        have HCA := Lib.hid hcells
        have HZ := Lib.hid (show (w.alloc (.cells #[.string (sortB (Bags.wd c.ws i).sort), .string (tx (Bags.wd c.ws i).text), .int .i64 (Bags.wd c.ws i).num] 98)).heap.size = w.heap.size + 1 by simp)
        clear hj1 hcells
        cases B3
        · cases B4
          · cases BU
            · go_wp2_with fail
              refine (HKU.out _ HCA.out).mono ?_
              rintro e w2 ⟨rfl, rfl⟩
              go_wp2_with fail
              go_meet
              case rel => exact ⟨HCA.out, HFA.out _, fun _ h => by
                rcases h with h | h | h
                · exact absurd (HB.out.1.2 h) (by decide)
                · exact absurd (HB.out.2.1.2 h) (by decide)
                · cases h⟩
            · go_wp2_with fail
              refine (HKU.out _ HCA.out).mono ?_
              rintro e w2 ⟨rfl, rfl⟩
              go_wp2_with fail
              go_ret
              have hh := IsRes.leaf (w := w) (k := .factor) (i := i) (j := j) HCA.out (HFA.out _) (t := .null) (kd := Bags.str "null") (sg := []) (txt := []) (of_ := []) (as_ := []) (nm := 0) (st := false) (nt := false) (al := false) rfl (fun w2 h _ => h) (by rw [HJ.out]; exact Bags.Der.f4 (show i < c.n by omega) HB.out.2.2)
              rw [HZ.out] at hh
              exact hh
          · cases BU
            all_goals
              go_wp2_with fail
              refine (HKU.out _ HCA.out).mono ?_
              rintro e w2 ⟨rfl, rfl⟩
              go_wp2_with fail
              go_ret
              have hh := IsRes.leaf (w := w) (k := .factor) (i := i) (j := j) HCA.out (HFA.out _) (t := .text (Bags.wd c.ws i).text) (kd := Bags.str "text") (sg := []) (txt := (Bags.wd c.ws i).text) (of_ := []) (as_ := []) (nm := 0) (st := false) (nt := false) (al := false) rfl (fun w2 h _ => h) (by rw [HJ.out]; exact Bags.Der.f3 (show i < c.n by omega) (HB.out.2.1.1 (by trivial)))
              rw [HZ.out] at hh
              exact hh
        · cases B4
          all_goals
            cases BU
            all_goals
              go_wp2_with fail
              refine (HKU.out _ HCA.out).mono ?_
              rintro e w2 ⟨rfl, rfl⟩
              go_wp2_with fail
              go_ret
              have hh := IsRes.leaf (w := w) (k := .factor) (i := i) (j := j) HCA.out (HFA.out _) (t := .num (Bags.wd c.ws i).num) (kd := Bags.str "num") (sg := []) (txt := []) (of_ := []) (as_ := []) (nm := (Bags.wd c.ws i).num) (st := false) (nt := false) (al := false) rfl (fun w2 h _ => h) (by rw [HJ.out]; exact Bags.Der.f2 (show i < c.n by omega) (HB.out.1.1 (by trivial)))
              rw [HZ.out] at hh
              exact hh
      · have hj1b : ((j : Int) == (i : Int) + 1) = false := beq_eq_false_iff_ne.2 (by omega)
        go_wp2_with fail
        go_meet
        case rel => exact ⟨HC.out, Fr.refl _ _, fun h => absurd h hj1⟩
    case rest =>
      obtain ⟨hcw, hfw, hnone⟩ := hcut
      have HCW := Lib.hid hcw
      have HFW := Lib.hid hfw
      have HNONE := Lib.hid hnone
      have hszw := hcw.size
      have hgM : wc.heap.size ≠ c.M := by omega
      have HG := Lib.hid (show Blk (wc.alloc (.cells #[.string ⟨#[99, 111, 117, 110, 116]⟩, .string ⟨#[115, 117, 109]⟩, .string ⟨#[109, 105, 110]⟩, .string ⟨#[109, 97, 120]⟩] 9)) wc.heap.size 9 (Bags.fns.map strV).toArray from Blk.made _ _ _)
      have HFB := Lib.hid (fun o => ((Fr.refl (· = c.M) wc).alloc o))
      have hR2 : ∀ W, CS c W → Calls Tryz.prog 110 #[.pointer (some ⟨c.C, 0, none⟩), .int .i64 15, .int .i64 (i + 1 : Nat), .int .i64 j] W (RoundRes c .expr (i + 1) j W) := fun W h =>
        round_any HIS.out (k := 15) (by decide) (by omega) hj (by omega) (Nat.lt_of_lt_of_le (rank_lt (k := 17) (i := i) (j := j) (by omega)) hN) W h
      simp only [show ((i + 1 : Nat) : Int) = (i : Int) + 1 by omega] at hR2
      have hR3 : ∀ W, CS c W → Calls Tryz.prog 110 #[.pointer (some ⟨c.C, 0, none⟩), .int .i64 15, .int .i64 i, .int .i64 j] W (RoundRes c .expr i j W) := fun W h =>
        round_any HIS.out (k := 15) (by decide) (by omega) hj (by omega) (Nat.lt_of_lt_of_le (rank_lt (k := 17) (i := i) (j := j) (by omega)) hN) W h
      have hR4 : ∀ W, CS c W → Calls Tryz.prog 42 #[.pointer (some ⟨c.C, 0, none⟩), .int .i64 10, .int .i64 i, .int .i64 j] W (IsRes c .col i j W) := fun W h =>
        HIS.out 10 i j W (by decide) (Nat.lt_of_lt_of_le (rank_same (by decide)) hN) (by omega) (by omega) h
      have HR2 := Lib.hid hR2
      have HR3 := Lib.hid hR3
      have HR4 := Lib.hid hR4
      clear hcw hfw hnone hR2 hR3 hR4
      go_wp2_with fail
      go_loopw [12] (fun kv wz => ∃ m : Nat, kv = .int .i64 m ∧ m ≤ 4 ∧ CS c wz ∧ Fr (· = c.M) (wc.alloc (.cells #[.string ⟨#[99, 111, 117, 110, 116]⟩, .string ⟨#[115, 117, 109]⟩, .string ⟨#[109, 105, 110]⟩, .string ⟨#[109, 97, 120]⟩] 9)) wz ∧ (∀ q (h : q < m) (h2 : q < Bags.fns.length), (Bags.wd c.ws i).is 1 [Bags.fns[q]] = false)) (fun kv _ => 4 - (intOf kv).toNat)
      case atStart => exact ⟨0, rfl, by omega, HCW.out.alloc _, Fr.refl _ _, fun q h => absurd h (by omega)⟩
      case round =>
        rename_i wr
        obtain ⟨m, rfl, hm, hcz, hfz, hall⟩ := hrel
        have HCZ := Lib.hid hcz
        have HFZ := Lib.hid ((HFW.out.trans (HFB.out _) (fun _ _ h => h)).trans hfz (fun _ _ h => h))
        have HFZ1 := Lib.hid hfz
        have HALL := Lib.hid hall
        by_cases hml : m < 4
        · have hml' : (m : Int) < 4 := by omega
          have hml2 : m < Bags.fns.length := hml
          have hm0 : (0 : Int) ≤ (m : Int) := by omega
          have hgz := HG.out.fr hfz hgM
          have s0 := hgz.cell m
          have hx : (Bags.fns.map strV).toArray[m]? = some (.string (tx Bags.fns[m])) := by simp [hml2, strV]
          rw [hx] at s0
          have hK := key_any c wr hcz i (tx Bags.fns[m])
          rw [bs_tx] at hK
          unfold ptr at hK
          have HTXT := Lib.hid (fun (h : (Bags.wd c.ws i).is 1 [Bags.fns[m]] = true) => show (Bags.wd c.ws i).text = Bags.fns[m] ∧ (Bags.wd c.ws i).is 1 Bags.fns = true from ⟨Bags.is_one h, is_of1 h (List.getElem_mem _)⟩)
          have HM0 := Lib.hid (fun (h : (Bags.wd c.ws i).is 1 [Bags.fns[m]] = true) => show (m = 0 ↔ (Bags.wd c.ws i).is 1 [Bags.str "count"] = true) from by
            have h1 := Bags.is_one h
            have hs := Bags.is_sort h
            constructor
            · intro hm; subst hm; exact h
            · intro hc
              have h2 := Bags.is_one hc
              rw [h1] at h2
              have hm3 : m = 0 ∨ m = 1 ∨ m = 2 ∨ m = 3 := by omega
              rcases hm3 with rfl | rfl | rfl | rfl
              · rfl
              · exact absurd (show Bags.str "sum" = Bags.str "count" from h2) (by decide)
              · exact absurd (show Bags.str "min" = Bags.str "count" from h2) (by decide)
              · exact absurd (show Bags.str "max" = Bags.str "count" from h2) (by decide))
          have HSTEP := Lib.hid (fun (h : (Bags.wd c.ws i).is 1 [Bags.fns[m]] = false) => show ∀ q (h : q < m + 1) (h2 : q < Bags.fns.length), (Bags.wd c.ws i).is 1 [Bags.fns[q]] = false from fun q h1 h2 => by
            rcases Nat.lt_or_ge q m with h3 | h3
            · exact HALL.out q h3 h2
            · obtain rfl : q = m := by omega
              exact h)
          generalize Bags.fns[m] = OP at *
          generalize hb1 : (Bags.wd c.ws i).is 1 [OP] = B1 at *
          have HB1 := Lib.hid hb1
          have HK := Lib.hid hK
          clear hcz hfz hall hgz hx hK hb1
          cases B1
          · go_wp2_with fail
            refine HK.out.mono ?_
            rintro e w2 ⟨rfl, rfl⟩
            go_wp2_with fail
            exact ⟨⟨m + 1, by simp, by omega, HCZ.out, HFZ1.out, HSTEP.out (by trivial)⟩, by simp [intOf]; omega⟩
          · have HT := Lib.hid (HTXT.out rfl)
            have HM := Lib.hid (HM0.out rfl)
            have hS1 := sign_any c wr HCZ.out (i + 1) ⟨#[40]⟩
            have hS2 := sign_any c wr HCZ.out (i + 2) ⟨#[42]⟩
            have hS3 := sign_any c wr HCZ.out (i + 3) ⟨#[41]⟩
            rw [← str_open, show ((i + 1 : Nat) : Int) = (i : Int) + 1 by omega] at hS1
            rw [← str_star, show ((i + 2 : Nat) : Int) = (i : Int) + 2 by omega] at hS2
            rw [← str_shut, show ((i + 3 : Nat) : Int) = (i : Int) + 3 by omega] at hS3
            unfold ptr at hS1 hS2 hS3
            have hst : ∃ BS : Bool, (BS = true ↔ Bags.Star c.ws i j) := by
              by_cases h : Bags.Star c.ws i j
              · exact ⟨true, by simp [h]⟩
              · exact ⟨false, by simp [h]⟩
            obtain ⟨BS, hBS⟩ := hst
            have HBS := Lib.hid hBS
            have HSD := Lib.hid (show Bags.Star c.ws i j ↔ (m = 0 ∧ j = i + 4 ∧ (Bags.wd c.ws (i + 1)).is 5 [Bags.str "("] = true ∧ (Bags.wd c.ws (i + 2)).is 5 [Bags.str "*"] = true ∧ (Bags.wd c.ws (i + 3)).is 5 [Bags.str ")"] = true) by
              unfold Bags.Star
              rw [HM.out])
            generalize hs1 : (Bags.wd c.ws (i + 1)).is 5 [Bags.str "("] = S1 at *
            generalize hs2 : (Bags.wd c.ws (i + 2)).is 5 [Bags.str "*"] = S2 at *
            generalize hs3 : (Bags.wd c.ws (i + 3)).is 5 [Bags.str ")"] = S3 at *
            have HSS := Lib.hid (And.intro hs1 (And.intro hs2 hs3))
            have HS1 := Lib.hid hS1
            have HS2 := Lib.hid hS2
            have HS3 := Lib.hid hS3
            clear hS1 hS2 hS3 hBS hs1 hs2 hs3
            go_wp2_with fail
            refine HK.out.mono ?_
            rintro e w2 ⟨rfl, rfl⟩
            go_upto_region 22 with fail
            go_cut [14] from 67 to 125 (fun v wx => v = .bool BS ∧ wr = wx)
            case first =>
              by_cases hm00 : m = 0
              · have hmb : ((m : Int) == 0) = true := by simp; omega
                by_cases hj4 : j = i + 4
                · have hjb : ((j : Int) == (i : Int) + 4) = true := by simp; omega
                  have HX := Lib.hid (show BS = (S1 && (S2 && S3)) by
                    have h1 := HBS.out
                    rw [HSD.out] at h1
                    cases S1 <;> cases S2 <;> cases S3 <;> cases BS <;> simp [hm00, hj4] at h1 ⊢)
                  clear hm00 hj4
                  cases S1
                  · go_wp2_with fail
                    refine HS1.out.mono ?_
                    rintro e w2 ⟨rfl, rfl⟩
                    go_wp2_with fail
                    go_meet
                    case rel => exact ⟨by rw [HX.out]; rfl, rfl⟩
                  · cases S2
                    · go_wp2_with fail
                      refine HS1.out.mono ?_
                      rintro e w2 ⟨rfl, rfl⟩
                      go_wp2_with fail
                      refine HS2.out.mono ?_
                      rintro e w2 ⟨rfl, rfl⟩
                      go_wp2_with fail
                      go_meet
                      case rel => exact ⟨by rw [HX.out]; rfl, rfl⟩
                    · go_wp2_with fail
                      refine HS1.out.mono ?_
                      rintro e w2 ⟨rfl, rfl⟩
                      go_wp2_with fail
                      refine HS2.out.mono ?_
                      rintro e w2 ⟨rfl, rfl⟩
                      go_wp2_with fail
                      refine HS3.out.mono ?_
                      rintro e w2 ⟨rfl, rfl⟩
                      go_wp2_with fail
                      go_meet
                      case rel => exact ⟨by rw [HX.out]; simp, rfl⟩
                · have hjb : ((j : Int) == (i : Int) + 4) = false := beq_eq_false_iff_ne.2 (by omega)
                  have HX := Lib.hid (show BS = false by
                    cases BS
                    · rfl
                    · exact absurd (HSD.out.1 (HBS.out.1 rfl)).2.1 hj4)
                  clear hm00 hj4
                  go_wp2_with fail
                  go_meet
                  case rel => exact ⟨by rw [HX.out], rfl⟩
              · have hmb : ((m : Int) == 0) = false := beq_eq_false_iff_ne.2 (by omega)
                have HX := Lib.hid (show BS = false by
                  cases BS
                  · rfl
                  · exact absurd (HSD.out.1 (HBS.out.1 rfl)).1 hm00)
                clear hm00
                go_wp2_with fail
                go_meet
                case rel => exact ⟨by rw [HX.out], rfl⟩
            case rest =>
              obtain ⟨rfl, rfl⟩ := hcut
              cases BS
              · go_wp2_with fail
                refine (HR2.out _ HCZ.out).mono ?_
                rintro e w5 ⟨hc5, hf5, h5⟩
                have HC5 := Lib.hid hc5
                have HF5 := Lib.hid (HFZ.out.trans hf5 (fun _ _ h => h))
                have HF51 := Lib.hid (HFZ1.out.trans hf5 (fun _ _ h => h))
                clear hc5 hf5
                rcases h5 with ⟨rfl, hno5⟩ | ⟨b5, t5, rfl, hb5, ht5, hd5⟩
                · have HNO := Lib.hid (fun (h : Bags.Has c.ws .factor i j) => show False from by
                    rcases HH2.out h with h | h
                    · exact HNONE.out h.1 h.2
                    · rw [if_pos HT.out.2] at h
                      rcases h with h | h
                      · exact absurd (HBS.out.2 h) (by decide)
                      · exact hno5 h)
                  go_wp2_with fail
                  go_ret
                  exact .no HC5.out HF5.out HNO.out
                · have hg5 := HG.out.fr HF51.out hgM
                  have s5 := hg5.cell m
                  have hx : (Bags.fns.map strV).toArray[m]? = some (.string (tx OP)) := by
                    have h0 := (HG.out.fr HFZ1.out hgM).cell m
                    rw [h0] at s0
                    exact s0
                  rw [hx] at s5
                  have HT5 := Lib.hid (And.intro ht5 hd5)
                  clear ht5 hd5 hg5 hx
                  go_wp2_with fail
                  go_ret
                  exact IsRes.one HC5.out HF5.out (t := .agg OP t5) (kd := OP) (sg := []) (txt := []) (of_ := []) (as_ := []) (nm := 0) (st := false) (nt := false) (al := false) rfl (fun w2 h2 hf2 => .inr ⟨b5, HT5.out.1.fr hf2 hM, h2⟩) (by have := Bags.Der.f6 HT.out.2 HT5.out.2; rwa [HT.out.1] at this)
              · go_wp2_with fail
                go_ret
                have hst := HBS.out.1 (by trivial)
                exact IsRes.leaf (k := .factor) (i := i) (j := j) HCZ.out HFZ.out (t := .agg (Bags.str "count") .none) (kd := Bags.str "count") (sg := []) (txt := []) (of_ := []) (as_ := []) (nm := 0) (st := true) (nt := false) (al := false) rfl (fun w2 h _ => .inl ⟨rfl, h⟩) (by
                  obtain ⟨h1, h2, h3, h4, h5⟩ := hst
                  have := Bags.Der.f5 (ws := c.ws) (i := i) (by show i + 4 ≤ c.n; omega) h1 h3 h4 h5
                  rw [Bags.is_one h1] at this
                  rwa [h2])
        · have hml' : ¬ (m : Int) < 4 := by omega
          have hfn : (Bags.wd c.ws i).is 1 Bags.fns = false := by
            rw [Bool.eq_false_iff]
            intro h
            obtain ⟨x, hx, hx2⟩ := is_some h
            rw [hall x (by have : x < 4 := hx; omega) hx] at hx2
            cases hx2
          have HFN := Lib.hid hfn
          clear hcz hfz hall hfn
          go_wp2_with fail
          refine (HR3.out _ HCZ.out).mono ?_
          rintro e w5 ⟨hc5, hf5, h5⟩
          have HC5 := Lib.hid hc5
          have HF5 := Lib.hid (HFZ.out.trans hf5 (fun _ _ h => h))
          clear hc5 hf5
          rcases h5 with ⟨rfl, hno5⟩ | ⟨b5, t5, rfl, hb5, ht5, hd5⟩
          · have HNO5 := Lib.hid hno5
            clear hno5
            go_wp2_with fail
            refine (HR4.out _ HC5.out).mono ?_
            rintro e w6 ⟨hc6, hf6, h6⟩
            have HC6 := Lib.hid hc6
            have HF6 := Lib.hid (HF5.out.trans hf6 (fun _ _ h => h))
            clear hc6 hf6
            rcases h6 with ⟨rfl, hno6⟩ | ⟨b6, t6, rfl, hb6, ht6, hd6⟩
            · have HNO := Lib.hid (fun (h : Bags.Has c.ws .factor i j) => show False from by
                rcases HH2.out h with h | h
                · exact HNONE.out h.1 h.2
                · rw [if_neg (Bags.no HFN.out)] at h
                  rcases h with h | h
                  · exact HNO5.out h
                  · exact hno6 h)
              go_wp2_with fail
              go_ret
              exact .no HC6.out HF6.out HNO.out
            · have HT6 := Lib.hid (And.intro ht6 hd6)
              clear ht6 hd6
              go_wp2_with fail
              go_ret
              exact ⟨HC6.out, HF6.out, .inr ⟨b6, t6, rfl, hb6, HT6.out.1, .f8 HT6.out.2⟩⟩
          · have HT5 := Lib.hid (And.intro ht5 hd5)
            clear ht5 hd5
            go_wp2_with fail
            go_ret
            exact ⟨HC5.out, HF5.out, .inr ⟨b5, t5, rfl, hb5, HT5.out.1, .f7 HT5.out.2⟩⟩
  · have hR : Calls Tryz.prog 42 #[.pointer (some ⟨c.C, 0, none⟩), .int .i64 17, .int .i64 (i + 1 : Nat), .int .i64 j] w (IsRes c .factor (i + 1) j w) :=
      hI 17 (i + 1) j w (by decide) (Nat.lt_of_lt_of_le (rank_lt (k := 17) (i := i) (j := j) (by omega)) hN) (by omega) (by omega) h
    rw [show ((i + 1 : Nat) : Int) = (i : Int) + 1 by omega] at hR
    have HR := Lib.hid hR
    clear hR h hI hK hbm
    go_enter Tryz.func94, Tryz.ntmps94
    go_wp2_with fail
    refine HK.out.mono ?_
    rintro e w1 ⟨rfl, rfl⟩
    go_wp2_with fail
    refine HR.out.mono ?_
    rintro e w1 ⟨hc, hf, ⟨rfl, hno⟩ | ⟨b, t, rfl, hb, ht, hd⟩⟩
    · have HX := Lib.hid (And.intro hc (And.intro hf hno))
      clear hc hf hno
      go_wp2_with fail
      go_ret
      exact .no HX.out.1 HX.out.2.1 (fun h => by
        have := HH.out h
        exact HX.out.2.2 (by simpa using this))
    · have HX := Lib.hid (And.intro hc (And.intro hf (And.intro ht hd)))
      clear hc hf ht hd
      go_wp2_with fail
      go_ret
      exact IsRes.one HX.out.1 HX.out.2.1 (t := .neg t) (kd := Bags.str "neg") (sg := []) (txt := []) (of_ := []) (as_ := []) (nm := 0) (st := false) (nt := false) (al := false) rfl (fun w2 h2 hf2 => ⟨b, HX.out.2.2.1.fr hf2 hM, h2⟩) (.f1 HBM.out HX.out.2.2.2)
end Go.Proofs.YtoephflcjllaaaaGreatDoor
