/- Walks of the reference's cutter: tail. -/
import Derived.Test.YtoephflcjllaaaaGreatDoorJ35
namespace Go.Proofs.YtoephflcjllaaaaGreatDoor
open Go.RowKit

theorem str_where : Bags.str "where" = bs ⟨#[119, 104, 101, 114, 101]⟩ := by decide
theorem str_group : Bags.str "group" = bs ⟨#[103, 114, 111, 117, 112]⟩ := by decide
theorem str_by : Bags.str "by" = bs ⟨#[98, 121]⟩ := by decide
theorem str_having : Bags.str "having" = bs ⟨#[104, 97, 118, 105, 110, 103]⟩ := by decide
theorem tailN.empty (w : World) (B : Nat) (hB : B ≤ w.heap.size) : tailN (w.alloc (.cells (treeC [] [] [] [] [] 0 false false false false (.slice none 0 0) (.slice none 0 0) (.slice none 0 0) (.slice none 0 0) (.pointer none) (.pointer none)) 64)) B [] .none .none .none .none w.heap.size :=
  ⟨_, [], _, _, [], _, hB, rfl, kids0, .inl ⟨rfl, rfl⟩, rfl, kids0, .inl ⟨rfl, rfl⟩, Blk.made _ _ _⟩
theorem tailN.having {w : World} {B : Nat} (hB : B ≤ w.heap.size) {h : Bags.T} {x : Nat} (M : Nat) (hM : M < B) (hx : tr w B h [x]) : tailN (w.alloc (.cells (treeC [] [] [] [] [] 0 false false false false (.slice none 0 0) (.slice none 0 0) (.slice none 0 0) (.slice none 0 0) (.pointer none) (.pointer (some ⟨x, 0, none⟩))) 64)) B [] .none .none .none h w.heap.size :=
  ⟨_, [], _, _, [], _, hB, rfl, kids0, .inl ⟨rfl, rfl⟩, rfl, kids0, .inr ⟨x, rfl, hx.fr ((Fr.refl (· = M) w).alloc _) hM⟩, Blk.made _ _ _⟩

/-- What the loop of tail has found. -/
def Goodtail (c : Ctx) (i j : Nat) (av bv : Value) (w : World) : Prop :=
  ∃ ba bb ta wh g h kd, av = .pointer (some ⟨ba, 0, none⟩) ∧ bv = .pointer (some ⟨bb, 0, none⟩) ∧ treeK w c.B .sources ta ba ∧ tailN w c.B kd .none wh g h bb ∧ Bags.Der c.ws .tail i j (.sel false .none ta wh g h)
theorem Goodtail.fr {c : Ctx} {i j : Nat} {av bv : Value} {w w' : World} (h : Goodtail c i j av bv w) (hf : Fr (· = c.M) w w') (hM : c.M < c.B) : Goodtail c i j av bv w' := by
  obtain ⟨ba, bb, ta, wh, g, h, kd, h1, h2, h3, h4, h5⟩ := h
  exact ⟨ba, bb, ta, wh, g, h, kd, h1, h2, h3.fr hf hM, h4.fr hf hM, h5⟩
/-- What may stand behind, from q on. -/
def Opttail (ws : List Bags.W) (i j q : Nat) : Prop := Bags.Has ws .sources i q ∧ (((Bags.wd ws q).is 1 [Bags.str "where"] = true ∧ Bags.Has ws .after (q + 1) j) ∨ ((Bags.wd ws q).is 1 [Bags.str "group"] = true ∧ (Bags.wd ws (q + 1)).is 1 [Bags.str "by"] = true ∧ Bags.Has ws .grouped (q + 2) j))

set_option maxRecDepth 100000 in
set_option maxHeartbeats 8000000 in
theorem tail_tail {c : Ctx} {N : Nat} (hI : IsOK c N) {i j : Nat} (hij : i < j) (hj : j ≤ c.n) (hN : rank 2 i j ≤ N) (w : World) (h : CS c w) :
    Calls Tryz.prog 86 #[.pointer (some ⟨c.C, 0, none⟩), .int .i64 2, .int .i64 i, .int .i64 j] w (IsRes c .tail i j w) := by
  have hn := h.pos.2
  have HIS := Lib.hid hI
  have HH := Lib.hid (show Bags.Has c.ws .tail i j → Bags.Has c.ws .sources i j ∨ ∃ q, i < q ∧ q < j ∧ Opttail c.ws i j q from fun h => by
    rcases h.tail with h | ⟨q, h1, h2, h3⟩
    · exact .inl h
    · exact .inr ⟨q, h1, h2, h3⟩)
  have h1 : Calls Tryz.prog 42 #[.pointer (some ⟨c.C, 0, none⟩), .int .i64 7, .int .i64 i, .int .i64 j] w (IsRes c .sources i j w) :=
    hI 7 i j w (by decide) (Nat.lt_of_lt_of_le (rank_same (by decide)) hN) (by omega) (by omega) h
  have H1 := Lib.hid h1
  clear hI h1 h
  go_enter Tryz.func86, Tryz.ntmps86
  go_wp2_with fail
  refine H1.out.mono ?_
  rintro e w1 ⟨hc, hf, hr⟩
  have HC1 := Lib.hid hc
  have HF1 := Lib.hid hf
  have hsz1 := hc.size
  have hM := hc.lt.2.2.1
  have hv : ∃ q, e = .returned (.pointer q) := by rcases hr with ⟨rfl, _⟩ | ⟨b, t, rfl, _⟩ <;> exact ⟨_, rfl⟩
  obtain ⟨q0, rfl⟩ := hv
  have HR := Lib.hid hr
  have HFA := fun o => ((Fr.refl (· = c.M) w1).alloc o)
  have HFA := Lib.hid HFA
  clear hc hf hr
  go_wp2_with fail
  go_loopw [10, 11, 12] (fun av bv pv wr => ∃ p : Nat, pv = .int .i64 p ∧ i + 1 ≤ p ∧ p ≤ j ∧ CS c wr ∧ Fr (· = c.M) w wr ∧ ((av = .pointer none ∧ (∃ q, bv = .pointer q) ∧ ¬ Bags.Has c.ws .sources i j ∧ ∀ q, i < q → q < p → ¬ Opttail c.ws i j q) ∨ Goodtail c i j av bv wr)) (fun _ _ pv _ => j - (intOf pv).toNat)
  case atStart =>
    refine ⟨i + 1, by simp, Nat.le_refl _, hij, HC1.out.alloc _, HF1.out.alloc _, ?_⟩
    rcases HR.out with ⟨hq, hno⟩ | ⟨b, t, hq, hb, ht, hd⟩
    · injection hq with hq
      exact .inl ⟨hq, ⟨_, rfl⟩, hno, fun q h1 h2 => absurd h2 (by omega)⟩
    · injection hq with hq
      exact .inr ⟨b, _, t, .none, .none, .none, [], hq, rfl, ht.fr (HFA.out _) hM, tailN.empty w1 c.B hsz1, .t1 hd⟩
  case round =>
    rename_i wr
    obtain ⟨p, rfl, hp1, hp2, hc, hf, hor⟩ := hrel
    have HC := Lib.hid hc
    have HF := Lib.hid hf
    by_cases hlt : p < j
    · have hlt' : (p : Int) < (j : Int) := by omega
      rcases hor with ⟨rfl, ⟨qb, rfl⟩, hno, hall⟩ | hgood
      · have HNO := Lib.hid (And.intro hno hall)
        have hKW := key_any c wr hc p ⟨#[119, 104, 101, 114, 101]⟩
        have hKG := key_any c wr hc p ⟨#[103, 114, 111, 117, 112]⟩
        have hKY := key_any c wr hc (p + 1) ⟨#[98, 121]⟩
        have hKH := key_any c wr hc p ⟨#[104, 97, 118, 105, 110, 103]⟩
        rw [← str_where] at hKW
        rw [← str_group] at hKG
        rw [← str_by, show ((p + 1 : Nat) : Int) = (p : Int) + 1 by omega] at hKY
        rw [← str_having] at hKH
        unfold ptr at hKW hKG hKY hKH
        have hne1 : (Bags.wd c.ws p).is 1 [Bags.str "where"] = true → (Bags.wd c.ws p).is 1 [Bags.str "group"] = false := fun h => Bags.is_not h (.inr (by decide))
        have HSTEP := Lib.hid (fun (h : ¬ Opttail c.ws i j p) => show ∀ q, i < q → q < p + 1 → ¬ Opttail c.ws i j q from fun q h1 h2 => by
          rcases Nat.lt_or_ge q p with h3 | h3
          · exact HNO.out.2 q h1 h3
          · obtain rfl : q = p := by omega
            exact h)
        generalize hbw : (Bags.wd c.ws p).is 1 [Bags.str "where"] = BW at *
        generalize hbg : (Bags.wd c.ws p).is 1 [Bags.str "group"] = BG at *
        generalize hby : (Bags.wd c.ws (p + 1)).is 1 [Bags.str "by"] = BY at *
        generalize hbh : (Bags.wd c.ws p).is 1 [Bags.str "having"] = BH at *
        have HB := Lib.hid (And.intro hbw (And.intro hbg (And.intro hby (And.intro hbh hne1))))
        have HKW := Lib.hid hKW
        have HKG := Lib.hid hKG
        have HKY := Lib.hid hKY
        have HKH := Lib.hid hKH
        clear hc hf hno hall hKW hKG hKY hKH hbw hbg hby hbh hne1
        go_wp2_with fail
        refine HKW.out.mono ?_
        rintro e w2 ⟨rfl, rfl⟩
        go_upto_region 13 with fail
        go_cut [14] from 31 to 99 (fun v wx => v = .bool (BG && BY) ∧ wr = wx)
        case first =>
          cases BG
          · go_wp2_with fail
            refine HKG.out.mono ?_
            rintro e w2 ⟨rfl, rfl⟩
            go_wp2_with fail
            go_meet
            case rel => exact ⟨by simp, rfl⟩
          · go_wp2_with fail
            refine HKG.out.mono ?_
            rintro e w2 ⟨rfl, rfl⟩
            go_wp2_with fail
            refine HKY.out.mono ?_
            rintro e w2 ⟨rfl, rfl⟩
            go_wp2_with fail
            go_meet
            case rel => exact ⟨by simp, rfl⟩
        case rest =>
          obtain ⟨rfl, rfl⟩ := hcut
          generalize hgb : (BG && BY) = GB at *
          have HGB := Lib.hid hgb
          clear hgb
          go_wp2_with fail
          refine HKH.out.mono ?_
          rintro e w2 ⟨rfl, rfl⟩
          have HISF : ∀ W, CS c W → Calls Tryz.prog 42 #[.pointer (some ⟨c.C, 0, none⟩), .int .i64 7, .int .i64 i, .int .i64 p] W (IsRes c .sources i p W) := fun W h =>
            HIS.out 7 i p W (by decide) (Nat.lt_of_lt_of_le (rank_lt (k := 2) (i := i) (j := j) (by omega)) hN) (by omega) (by omega) h
          have HISF := Lib.hid HISF
          have hIS3 : ∀ W, CS c W → Calls Tryz.prog 42 #[.pointer (some ⟨c.C, 0, none⟩), .int .i64 3, .int .i64 (p + 1 : Nat), .int .i64 j] W (IsRes c .after (p + 1) j W) := fun W h =>
            HIS.out 3 (p + 1) j W (by decide) (Nat.lt_of_lt_of_le (rank_lt (k := 2) (i := i) (j := j) (by omega)) hN) (by omega) (by omega) h
          have hIS4 : ∀ W, CS c W → Calls Tryz.prog 42 #[.pointer (some ⟨c.C, 0, none⟩), .int .i64 4, .int .i64 (p + 2 : Nat), .int .i64 j] W (IsRes c .grouped (p + 2) j W) := fun W h =>
            HIS.out 4 (p + 2) j W (by decide) (Nat.lt_of_lt_of_le (rank_lt (k := 2) (i := i) (j := j) (by omega)) hN) (by omega) (by omega) h
          have hIS5 : ∀ W, CS c W → Calls Tryz.prog 42 #[.pointer (some ⟨c.C, 0, none⟩), .int .i64 11, .int .i64 (p + 1 : Nat), .int .i64 j] W (IsRes c .cond (p + 1) j W) := fun W h =>
            HIS.out 11 (p + 1) j W (by decide) (Nat.lt_of_lt_of_le (rank_lt (k := 2) (i := i) (j := j) (by omega)) hN) (by omega) (by omega) h
          simp only [show ((p + 1 : Nat) : Int) = (p : Int) + 1 by omega] at hIS3 hIS5
          simp only [show ((p + 2 : Nat) : Int) = (p : Int) + 2 by omega] at hIS4
          have HIS3 := Lib.hid hIS3
          have HIS4 := Lib.hid hIS4
          have HIS5 := Lib.hid hIS5
          clear hIS3 hIS4 hIS5
          cases BW
          · cases GB
            · cases BH
              all_goals
                go_wp2_with fail
                exact ⟨⟨p + 1, by simp, by omega, by omega, HC.out, HF.out, .inl ⟨rfl, ⟨_, rfl⟩, HNO.out.1, HSTEP.out (fun h => by
                  rcases h.2 with h | h
                  · exact absurd (HB.out.1.symm.trans h.1) (by decide)
                  · exact absurd (by have := HGB.out; have a := HB.out.2.1.symm.trans h.1; have b := HB.out.2.2.1.symm.trans h.2.1; rw [a, b] at this; exact this) (by decide))⟩⟩, by simp [intOf]; omega⟩
            · have hgy : BG = true ∧ BY = true := by have := HGB.out; simpa using this
              have HGY := Lib.hid (And.intro (HB.out.2.1.trans hgy.1) (HB.out.2.2.1.trans hgy.2))
              clear hgy
              cases BH
              all_goals
                go_wp2_with fail
                refine (HIS4.out _ HC.out).mono ?_
                rintro e w4 ⟨hc4, hf4, h4⟩
                have HC4 := Lib.hid hc4
                have HF4 := Lib.hid (HF.out.trans hf4 (fun _ _ h => h))
                clear hc4 hf4
                rcases h4 with ⟨rfl, hno4⟩ | ⟨b4, t4, rfl, hb4, ht4, hd4⟩
                · go_wp2_with fail
                  exact ⟨⟨p + 1, by simp, by omega, by omega, HC4.out, HF4.out, .inl ⟨rfl, ⟨_, rfl⟩, HNO.out.1, HSTEP.out (fun h => by
                    rcases h.2 with h | h
                    · exact absurd (HB.out.1.symm.trans h.1) (by decide)
                    · exact hno4 h.2.2)⟩⟩, by simp [intOf]; omega⟩
                · have HT4 := Lib.hid (And.intro ht4 hd4)
                  clear ht4 hd4
                  obtain ⟨f4, wh4, g4, h4, rfl, hn4⟩ := HT4.out.1
                  obtain ⟨g4', h4', e4⟩ := (Bags.tail_form HT4.out.2.2).2.2 rfl
                  injection e4 with _ _ e41 e42 e43 e44
                  subst e41 e42 e43 e44
                  have HN4 := Lib.hid hn4
                  clear hn4
                  go_wp2_with fail
                  refine (HISF.out _ HC4.out).mono ?_
                  rintro e w5 ⟨hc5, hf5, h5⟩
                  have HC5 := Lib.hid hc5
                  have HF45 := Lib.hid hf5
                  have HF5 := Lib.hid (HF4.out.trans hf5 (fun _ _ h => h))
                  clear hc5 hf5
                  rcases h5 with ⟨rfl, hno5⟩ | ⟨b5, t5, rfl, hb5, ht5, hd5⟩
                  · go_wp2_with fail
                    exact ⟨⟨p + 1, by simp, by omega, by omega, HC5.out, HF5.out, .inl ⟨rfl, ⟨_, rfl⟩, HNO.out.1, HSTEP.out (fun h => hno5 h.1)⟩⟩, by simp [intOf]; omega⟩
                  · have HT5 := Lib.hid (And.intro ht5 hd5)
                    clear ht5 hd5
                    go_wp2_with fail
                    exact ⟨⟨p + 1, by simp, by omega, by omega, HC5.out, HF5.out, .inr ⟨b5, b4, t5, .none, _, _, _, rfl, rfl, HT5.out.1, HN4.out.fr HF45.out hM, .t3 HGY.out.1 HGY.out.2 HT5.out.2 HT4.out.2⟩⟩, by simp [intOf]; omega⟩
          · have HBG := Lib.hid (HB.out.2.2.2.2 rfl)
            cases BH
            all_goals
              go_wp2_with fail
              refine (HIS3.out _ HC.out).mono ?_
              rintro e w4 ⟨hc4, hf4, h4⟩
              have HC4 := Lib.hid hc4
              have HF4 := Lib.hid (HF.out.trans hf4 (fun _ _ h => h))
              clear hc4 hf4
              rcases h4 with ⟨rfl, hno4⟩ | ⟨b4, t4, rfl, hb4, ht4, hd4⟩
              · go_wp2_with fail
                exact ⟨⟨p + 1, by simp, by omega, by omega, HC4.out, HF4.out, .inl ⟨rfl, ⟨_, rfl⟩, HNO.out.1, HSTEP.out (fun h => by
                  rcases h.2 with h | h
                  · exact hno4 h.2
                  · exact absurd (h.1.symm.trans (HB.out.2.1.trans HBG.out)) (by decide))⟩⟩, by simp [intOf]; omega⟩
              · have HT4 := Lib.hid (And.intro ht4 hd4)
                clear ht4 hd4
                obtain ⟨f4, wh4, g4, h4, rfl, hn4⟩ := HT4.out.1
                obtain ⟨wh4', g4', h4', e4⟩ := (Bags.tail_form HT4.out.2.2).2.1 rfl
                injection e4 with _ _ e41 e42 e43 e44
                subst e41 e42 e43 e44
                have HN4 := Lib.hid hn4
                clear hn4
                go_wp2_with fail
                refine (HISF.out _ HC4.out).mono ?_
                rintro e w5 ⟨hc5, hf5, h5⟩
                have HC5 := Lib.hid hc5
                have HF45 := Lib.hid hf5
                have HF5 := Lib.hid (HF4.out.trans hf5 (fun _ _ h => h))
                clear hc5 hf5
                rcases h5 with ⟨rfl, hno5⟩ | ⟨b5, t5, rfl, hb5, ht5, hd5⟩
                · go_wp2_with fail
                  exact ⟨⟨p + 1, by simp, by omega, by omega, HC5.out, HF5.out, .inl ⟨rfl, ⟨_, rfl⟩, HNO.out.1, HSTEP.out (fun h => hno5 h.1)⟩⟩, by simp [intOf]; omega⟩
                · have HT5 := Lib.hid (And.intro ht5 hd5)
                  clear ht5 hd5
                  go_wp2_with fail
                  exact ⟨⟨p + 1, by simp, by omega, by omega, HC5.out, HF5.out, .inr ⟨b5, b4, t5, _, _, _, _, rfl, rfl, HT5.out.1, HN4.out.fr HF45.out hM, .t2 HB.out.1 HT5.out.2 HT4.out.2⟩⟩, by simp [intOf]; omega⟩
      · obtain ⟨ba, bb, ta, wh, g, h, kd, rfl, rfl, hga, hgb, hgd⟩ := hgood
        have HGO := Lib.hid (And.intro hga (And.intro hgb hgd))
        clear hc hf hga hgb hgd
        have hblk := HGO.out.2.1
        obtain ⟨vf, pf, xw, vg, pg, xh, _, htf, hkf, hwh, htg, hkg, hhv, hblk⟩ := hblk
        obtain ⟨bvf, pvf, rfl⟩ := own_slice hkf
        obtain ⟨bvg, pvg, rfl⟩ := own_slice hkg
        obtain ⟨qw, rfl⟩ := hwh.shape
        obtain ⟨qh, rfl⟩ := hhv.shape
        have t12 := hblk.cell 12
        have t13 := hblk.cell 13
        have t14 := hblk.cell 14
        have t15 := hblk.cell 15
        unfold treeC at t12 t13 t14 t15
        simp at t12 t13 t14 t15
        have HTT := Lib.hid (And.intro htf (And.intro hkf (And.intro hwh (And.intro htg (And.intro hkg hhv)))))
        clear htf hkf hwh htg hkg hhv hblk
        obtain ⟨ks, hks, htk, bl', vl, hbl', _, hkv, hlblk⟩ := HGO.out.1
        injection hbl' with hbl'
        subst hbl'
        obtain ⟨bvl, pvl, rfl⟩ := own_slice hkv
        have l10 := hlblk.cell 10
        unfold treeC at l10
        simp at l10
        have l10' := fun o => cell_alloc l10 o
        have HLT := Lib.hid (And.intro hks (And.intro htk hkv))
        clear hks htk hkv hlblk
        go_wp2_with fail
        go_region_held3 (fun w' => w'.cell? ⟨bb, 12, none⟩ = some (.slice bvf pf.length pvf) ∧ w'.cell? ⟨bb, 13, none⟩ = some (.slice bvg pg.length pvg) ∧ w'.cell? ⟨bb, 14, none⟩ = some (.pointer qw) ∧ w'.cell? ⟨bb, 15, none⟩ = some (.pointer qh))
          (first | exact ⟨t12, t13, t14, t15⟩ | exact ⟨cell_alloc t12 _, cell_alloc t13 _, cell_alloc t14 _, cell_alloc t15 _⟩ | go_keep) (fail)
        all_goals go_wp2_with fail
        go_ret
        refine IsRes.drew (IsRes.at_ HC.out HF.out ((Below.refl _ _).alloc (Nat.le_refl _) _) HC.out.size (t := _) ?_ HGO.out.2.2)
        have hf2 : ∀ o, Fr (· = c.M) wr (wr.alloc o) := fun o => (Fr.refl _ _).alloc o
        exact ⟨ta, wh, g, h, rfl, _, ks, _, _, pg, _, HC.out.size, HLT.out.2.1.fr (hf2 _) hM, HLT.out.2.2.fr (hf2 _) hM, HTT.out.2.2.1.fr (hf2 _) hM, HTT.out.2.2.2.1.fr (hf2 _) hM, HTT.out.2.2.2.2.1.fr (hf2 _) hM, HTT.out.2.2.2.2.2.fr (hf2 _) hM, Blk.made _ _ _⟩
    · have hlt' : ¬ (p : Int) < (j : Int) := by omega
      rcases hor with ⟨rfl, ⟨qb, rfl⟩, hno, hall⟩ | hgood
      · have HNO := Lib.hid (And.intro hno hall)
        clear hc hf hno hall
        go_wp2_with fail
        go_ret
        exact .no HC.out HF.out (fun h => by
          rcases HH.out h with h | ⟨q, h1, h2, h3⟩
          · exact HNO.out.1 h
          · exact HNO.out.2 q h1 (by omega) h3)
      · obtain ⟨ba, bb, ta, wh, g, h, kd, rfl, rfl, hga, hgb, hgd⟩ := hgood
        have HGO := Lib.hid (And.intro hga (And.intro hgb hgd))
        clear hc hf hga hgb hgd
        have hblk := HGO.out.2.1
        obtain ⟨vf, pf, xw, vg, pg, xh, _, htf, hkf, hwh, htg, hkg, hhv, hblk⟩ := hblk
        obtain ⟨bvf, pvf, rfl⟩ := own_slice hkf
        obtain ⟨bvg, pvg, rfl⟩ := own_slice hkg
        obtain ⟨qw, rfl⟩ := hwh.shape
        obtain ⟨qh, rfl⟩ := hhv.shape
        have t12 := hblk.cell 12
        have t13 := hblk.cell 13
        have t14 := hblk.cell 14
        have t15 := hblk.cell 15
        unfold treeC at t12 t13 t14 t15
        simp at t12 t13 t14 t15
        have HTT := Lib.hid (And.intro htf (And.intro hkf (And.intro hwh (And.intro htg (And.intro hkg hhv)))))
        clear htf hkf hwh htg hkg hhv hblk
        obtain ⟨ks, hks, htk, bl', vl, hbl', _, hkv, hlblk⟩ := HGO.out.1
        injection hbl' with hbl'
        subst hbl'
        obtain ⟨bvl, pvl, rfl⟩ := own_slice hkv
        have l10 := hlblk.cell 10
        unfold treeC at l10
        simp at l10
        have l10' := fun o => cell_alloc l10 o
        have HLT := Lib.hid (And.intro hks (And.intro htk hkv))
        clear hks htk hkv hlblk
        go_wp2_with fail
        go_region_held3 (fun w' => w'.cell? ⟨bb, 12, none⟩ = some (.slice bvf pf.length pvf) ∧ w'.cell? ⟨bb, 13, none⟩ = some (.slice bvg pg.length pvg) ∧ w'.cell? ⟨bb, 14, none⟩ = some (.pointer qw) ∧ w'.cell? ⟨bb, 15, none⟩ = some (.pointer qh))
          (first | exact ⟨t12, t13, t14, t15⟩ | exact ⟨cell_alloc t12 _, cell_alloc t13 _, cell_alloc t14 _, cell_alloc t15 _⟩ | go_keep) (fail)
        all_goals go_wp2_with fail
        go_ret
        refine IsRes.drew (IsRes.at_ HC.out HF.out ((Below.refl _ _).alloc (Nat.le_refl _) _) HC.out.size (t := _) ?_ HGO.out.2.2)
        have hf2 : ∀ o, Fr (· = c.M) wr (wr.alloc o) := fun o => (Fr.refl _ _).alloc o
        exact ⟨ta, wh, g, h, rfl, _, ks, _, _, pg, _, HC.out.size, HLT.out.2.1.fr (hf2 _) hM, HLT.out.2.2.fr (hf2 _) hM, HTT.out.2.2.1.fr (hf2 _) hM, HTT.out.2.2.2.1.fr (hf2 _) hM, HTT.out.2.2.2.2.1.fr (hf2 _) hM, HTT.out.2.2.2.2.2.fr (hf2 _) hM, Blk.made _ _ _⟩

/-- What the loop of after has found. -/
def Goodafter (c : Ctx) (i j : Nat) (av bv : Value) (w : World) : Prop :=
  ∃ ba bb ta g h kd, av = .pointer (some ⟨ba, 0, none⟩) ∧ bv = .pointer (some ⟨bb, 0, none⟩) ∧ treeK w c.B .cond ta ba ∧ tailN w c.B kd .none .none g h bb ∧ Bags.Der c.ws .after i j (.sel false .none .none ta g h)
theorem Goodafter.fr {c : Ctx} {i j : Nat} {av bv : Value} {w w' : World} (h : Goodafter c i j av bv w) (hf : Fr (· = c.M) w w') (hM : c.M < c.B) : Goodafter c i j av bv w' := by
  obtain ⟨ba, bb, ta, g, h, kd, h1, h2, h3, h4, h5⟩ := h
  exact ⟨ba, bb, ta, g, h, kd, h1, h2, h3.fr hf hM, h4.fr hf hM, h5⟩
/-- What may stand behind, from q on. -/
def Optafter (ws : List Bags.W) (i j q : Nat) : Prop := Bags.Has ws .cond i q ∧ (Bags.wd ws q).is 1 [Bags.str "group"] = true ∧ (Bags.wd ws (q + 1)).is 1 [Bags.str "by"] = true ∧ Bags.Has ws .grouped (q + 2) j

set_option maxRecDepth 100000 in
set_option maxHeartbeats 8000000 in
theorem tail_after {c : Ctx} {N : Nat} (hI : IsOK c N) {i j : Nat} (hij : i < j) (hj : j ≤ c.n) (hN : rank 3 i j ≤ N) (w : World) (h : CS c w) :
    Calls Tryz.prog 86 #[.pointer (some ⟨c.C, 0, none⟩), .int .i64 3, .int .i64 i, .int .i64 j] w (IsRes c .after i j w) := by
  have hn := h.pos.2
  have HIS := Lib.hid hI
  have HH := Lib.hid (show Bags.Has c.ws .after i j → Bags.Has c.ws .cond i j ∨ ∃ q, i < q ∧ q < j ∧ Optafter c.ws i j q from fun h => by
    rcases h.after with h | ⟨q, h1, h2, h3⟩
    · exact .inl h
    · exact .inr ⟨q, h1, h2, h3⟩)
  have h1 : Calls Tryz.prog 42 #[.pointer (some ⟨c.C, 0, none⟩), .int .i64 11, .int .i64 i, .int .i64 j] w (IsRes c .cond i j w) :=
    hI 11 i j w (by decide) (Nat.lt_of_lt_of_le (rank_same (by decide)) hN) (by omega) (by omega) h
  have H1 := Lib.hid h1
  clear hI h1 h
  go_enter Tryz.func86, Tryz.ntmps86
  go_wp2_with fail
  refine H1.out.mono ?_
  rintro e w1 ⟨hc, hf, hr⟩
  have HC1 := Lib.hid hc
  have HF1 := Lib.hid hf
  have hsz1 := hc.size
  have hM := hc.lt.2.2.1
  have hv : ∃ q, e = .returned (.pointer q) := by rcases hr with ⟨rfl, _⟩ | ⟨b, t, rfl, _⟩ <;> exact ⟨_, rfl⟩
  obtain ⟨q0, rfl⟩ := hv
  have HR := Lib.hid hr
  have HFA := fun o => ((Fr.refl (· = c.M) w1).alloc o)
  have HFA := Lib.hid HFA
  clear hc hf hr
  go_wp2_with fail
  go_loopw [10, 11, 12] (fun av bv pv wr => ∃ p : Nat, pv = .int .i64 p ∧ i + 1 ≤ p ∧ p ≤ j ∧ CS c wr ∧ Fr (· = c.M) w wr ∧ ((av = .pointer none ∧ (∃ q, bv = .pointer q) ∧ ¬ Bags.Has c.ws .cond i j ∧ ∀ q, i < q → q < p → ¬ Optafter c.ws i j q) ∨ Goodafter c i j av bv wr)) (fun _ _ pv _ => j - (intOf pv).toNat)
  case atStart =>
    refine ⟨i + 1, by simp, Nat.le_refl _, hij, HC1.out.alloc _, HF1.out.alloc _, ?_⟩
    rcases HR.out with ⟨hq, hno⟩ | ⟨b, t, hq, hb, ht, hd⟩
    · injection hq with hq
      exact .inl ⟨hq, ⟨_, rfl⟩, hno, fun q h1 h2 => absurd h2 (by omega)⟩
    · injection hq with hq
      exact .inr ⟨b, _, t, .none, .none, [], hq, rfl, ht.fr (HFA.out _) hM, tailN.empty w1 c.B hsz1, .a1 hd⟩
  case round =>
    rename_i wr
    obtain ⟨p, rfl, hp1, hp2, hc, hf, hor⟩ := hrel
    have HC := Lib.hid hc
    have HF := Lib.hid hf
    by_cases hlt : p < j
    · have hlt' : (p : Int) < (j : Int) := by omega
      rcases hor with ⟨rfl, ⟨qb, rfl⟩, hno, hall⟩ | hgood
      · have HNO := Lib.hid (And.intro hno hall)
        have hKW := key_any c wr hc p ⟨#[119, 104, 101, 114, 101]⟩
        have hKG := key_any c wr hc p ⟨#[103, 114, 111, 117, 112]⟩
        have hKY := key_any c wr hc (p + 1) ⟨#[98, 121]⟩
        have hKH := key_any c wr hc p ⟨#[104, 97, 118, 105, 110, 103]⟩
        rw [← str_where] at hKW
        rw [← str_group] at hKG
        rw [← str_by, show ((p + 1 : Nat) : Int) = (p : Int) + 1 by omega] at hKY
        rw [← str_having] at hKH
        unfold ptr at hKW hKG hKY hKH
        have hne1 : (Bags.wd c.ws p).is 1 [Bags.str "where"] = true → (Bags.wd c.ws p).is 1 [Bags.str "group"] = false := fun h => Bags.is_not h (.inr (by decide))
        have HSTEP := Lib.hid (fun (h : ¬ Optafter c.ws i j p) => show ∀ q, i < q → q < p + 1 → ¬ Optafter c.ws i j q from fun q h1 h2 => by
          rcases Nat.lt_or_ge q p with h3 | h3
          · exact HNO.out.2 q h1 h3
          · obtain rfl : q = p := by omega
            exact h)
        generalize hbw : (Bags.wd c.ws p).is 1 [Bags.str "where"] = BW at *
        generalize hbg : (Bags.wd c.ws p).is 1 [Bags.str "group"] = BG at *
        generalize hby : (Bags.wd c.ws (p + 1)).is 1 [Bags.str "by"] = BY at *
        generalize hbh : (Bags.wd c.ws p).is 1 [Bags.str "having"] = BH at *
        have HB := Lib.hid (And.intro hbw (And.intro hbg (And.intro hby (And.intro hbh hne1))))
        have HKW := Lib.hid hKW
        have HKG := Lib.hid hKG
        have HKY := Lib.hid hKY
        have HKH := Lib.hid hKH
        clear hc hf hno hall hKW hKG hKY hKH hbw hbg hby hbh hne1
        go_wp2_with fail
        refine HKW.out.mono ?_
        rintro e w2 ⟨rfl, rfl⟩
        go_upto_region 13 with fail
        go_cut [14] from 31 to 99 (fun v wx => v = .bool (BG && BY) ∧ wr = wx)
        case first =>
          cases BG
          · go_wp2_with fail
            refine HKG.out.mono ?_
            rintro e w2 ⟨rfl, rfl⟩
            go_wp2_with fail
            go_meet
            case rel => exact ⟨by simp, rfl⟩
          · go_wp2_with fail
            refine HKG.out.mono ?_
            rintro e w2 ⟨rfl, rfl⟩
            go_wp2_with fail
            refine HKY.out.mono ?_
            rintro e w2 ⟨rfl, rfl⟩
            go_wp2_with fail
            go_meet
            case rel => exact ⟨by simp, rfl⟩
        case rest =>
          obtain ⟨rfl, rfl⟩ := hcut
          generalize hgb : (BG && BY) = GB at *
          have HGB := Lib.hid hgb
          clear hgb
          go_wp2_with fail
          refine HKH.out.mono ?_
          rintro e w2 ⟨rfl, rfl⟩
          have HISF : ∀ W, CS c W → Calls Tryz.prog 42 #[.pointer (some ⟨c.C, 0, none⟩), .int .i64 11, .int .i64 i, .int .i64 p] W (IsRes c .cond i p W) := fun W h =>
            HIS.out 11 i p W (by decide) (Nat.lt_of_lt_of_le (rank_lt (k := 3) (i := i) (j := j) (by omega)) hN) (by omega) (by omega) h
          have HISF := Lib.hid HISF
          have hIS3 : ∀ W, CS c W → Calls Tryz.prog 42 #[.pointer (some ⟨c.C, 0, none⟩), .int .i64 3, .int .i64 (p + 1 : Nat), .int .i64 j] W (IsRes c .after (p + 1) j W) := fun W h =>
            HIS.out 3 (p + 1) j W (by decide) (Nat.lt_of_lt_of_le (rank_lt (k := 3) (i := i) (j := j) (by omega)) hN) (by omega) (by omega) h
          have hIS4 : ∀ W, CS c W → Calls Tryz.prog 42 #[.pointer (some ⟨c.C, 0, none⟩), .int .i64 4, .int .i64 (p + 2 : Nat), .int .i64 j] W (IsRes c .grouped (p + 2) j W) := fun W h =>
            HIS.out 4 (p + 2) j W (by decide) (Nat.lt_of_lt_of_le (rank_lt (k := 3) (i := i) (j := j) (by omega)) hN) (by omega) (by omega) h
          have hIS5 : ∀ W, CS c W → Calls Tryz.prog 42 #[.pointer (some ⟨c.C, 0, none⟩), .int .i64 11, .int .i64 (p + 1 : Nat), .int .i64 j] W (IsRes c .cond (p + 1) j W) := fun W h =>
            HIS.out 11 (p + 1) j W (by decide) (Nat.lt_of_lt_of_le (rank_lt (k := 3) (i := i) (j := j) (by omega)) hN) (by omega) (by omega) h
          simp only [show ((p + 1 : Nat) : Int) = (p : Int) + 1 by omega] at hIS3 hIS5
          simp only [show ((p + 2 : Nat) : Int) = (p : Int) + 2 by omega] at hIS4
          have HIS3 := Lib.hid hIS3
          have HIS4 := Lib.hid hIS4
          have HIS5 := Lib.hid hIS5
          clear hIS3 hIS4 hIS5
          cases GB
          · cases BW
            all_goals
              cases BH
              all_goals
                go_wp2_with fail
                exact ⟨⟨p + 1, by simp, by omega, by omega, HC.out, HF.out, .inl ⟨rfl, ⟨_, rfl⟩, HNO.out.1, HSTEP.out (fun h => absurd (by have := HGB.out; have a := HB.out.2.1.symm.trans h.2.1; have b := HB.out.2.2.1.symm.trans h.2.2.1; rw [a, b] at this; exact this) (by decide))⟩⟩, by simp [intOf]; omega⟩
          · have hgy : BG = true ∧ BY = true := by have := HGB.out; simpa using this
            have HGY := Lib.hid (And.intro (HB.out.2.1.trans hgy.1) (HB.out.2.2.1.trans hgy.2))
            clear hgy
            cases BW
            all_goals
              cases BH
              all_goals
                go_wp2_with fail
                refine (HIS4.out _ HC.out).mono ?_
                rintro e w4 ⟨hc4, hf4, h4⟩
                have HC4 := Lib.hid hc4
                have HF4 := Lib.hid (HF.out.trans hf4 (fun _ _ h => h))
                clear hc4 hf4
                rcases h4 with ⟨rfl, hno4⟩ | ⟨b4, t4, rfl, hb4, ht4, hd4⟩
                · go_wp2_with fail
                  exact ⟨⟨p + 1, by simp, by omega, by omega, HC4.out, HF4.out, .inl ⟨rfl, ⟨_, rfl⟩, HNO.out.1, HSTEP.out (fun h => hno4 h.2.2.2)⟩⟩, by simp [intOf]; omega⟩
                · have HT4 := Lib.hid (And.intro ht4 hd4)
                  clear ht4 hd4
                  obtain ⟨f4, wh4, g4, h4, rfl, hn4⟩ := HT4.out.1
                  obtain ⟨g4', h4', e4⟩ := (Bags.tail_form HT4.out.2.2).2.2 rfl
                  injection e4 with _ _ e41 e42 e43 e44
                  subst e41 e42 e43 e44
                  have HN4 := Lib.hid hn4
                  clear hn4
                  go_wp2_with fail
                  refine (HISF.out _ HC4.out).mono ?_
                  rintro e w5 ⟨hc5, hf5, h5⟩
                  have HC5 := Lib.hid hc5
                  have HF45 := Lib.hid hf5
                  have HF5 := Lib.hid (HF4.out.trans hf5 (fun _ _ h => h))
                  clear hc5 hf5
                  rcases h5 with ⟨rfl, hno5⟩ | ⟨b5, t5, rfl, hb5, ht5, hd5⟩
                  · go_wp2_with fail
                    exact ⟨⟨p + 1, by simp, by omega, by omega, HC5.out, HF5.out, .inl ⟨rfl, ⟨_, rfl⟩, HNO.out.1, HSTEP.out (fun h => hno5 h.1)⟩⟩, by simp [intOf]; omega⟩
                  · have HT5 := Lib.hid (And.intro ht5 hd5)
                    clear ht5 hd5
                    go_wp2_with fail
                    exact ⟨⟨p + 1, by simp, by omega, by omega, HC5.out, HF5.out, .inr ⟨b5, b4, t5, _, _, _, rfl, rfl, HT5.out.1, HN4.out.fr HF45.out hM, .a2 HGY.out.1 HGY.out.2 HT5.out.2 HT4.out.2⟩⟩, by simp [intOf]; omega⟩
      · obtain ⟨ba, bb, ta, g, h, kd, rfl, rfl, hga, hgb, hgd⟩ := hgood
        have HGO := Lib.hid (And.intro hga (And.intro hgb hgd))
        clear hc hf hga hgb hgd
        have hblk := HGO.out.2.1
        obtain ⟨vf, pf, xw, vg, pg, xh, _, htf, hkf, hwh, htg, hkg, hhv, hblk⟩ := hblk
        obtain ⟨bvf, pvf, rfl⟩ := own_slice hkf
        obtain ⟨bvg, pvg, rfl⟩ := own_slice hkg
        obtain ⟨qw, rfl⟩ := hwh.shape
        obtain ⟨qh, rfl⟩ := hhv.shape
        have t12 := hblk.cell 12
        have t13 := hblk.cell 13
        have t14 := hblk.cell 14
        have t15 := hblk.cell 15
        unfold treeC at t12 t13 t14 t15
        simp at t12 t13 t14 t15
        have HTT := Lib.hid (And.intro htf (And.intro hkf (And.intro hwh (And.intro htg (And.intro hkg hhv)))))
        clear htf hkf hwh htg hkg hhv hblk

        go_wp2_with fail
        go_region_held3 (fun w' => w'.cell? ⟨bb, 12, none⟩ = some (.slice bvf pf.length pvf) ∧ w'.cell? ⟨bb, 13, none⟩ = some (.slice bvg pg.length pvg) ∧ w'.cell? ⟨bb, 14, none⟩ = some (.pointer qw) ∧ w'.cell? ⟨bb, 15, none⟩ = some (.pointer qh))
          (first | exact ⟨t12, t13, t14, t15⟩ | exact ⟨cell_alloc t12 _, cell_alloc t13 _, cell_alloc t14 _, cell_alloc t15 _⟩ | go_keep) (fail)
        all_goals go_wp2_with fail
        go_ret
        refine IsRes.drew (IsRes.at_ HC.out HF.out ((Below.refl _ _).alloc (Nat.le_refl _) _) HC.out.size (t := _) ?_ HGO.out.2.2)
        have hf2 : ∀ o, Fr (· = c.M) wr (wr.alloc o) := fun o => (Fr.refl _ _).alloc o
        exact ⟨.none, ta, g, h, rfl, _, pf, _, _, pg, _, HC.out.size, HTT.out.1.fr (hf2 _) hM, HTT.out.2.1.fr (hf2 _) hM, .inr ⟨ba, rfl, (show tr wr c.B ta [ba] from HGO.out.1).fr (hf2 _) hM⟩, HTT.out.2.2.2.1.fr (hf2 _) hM, HTT.out.2.2.2.2.1.fr (hf2 _) hM, HTT.out.2.2.2.2.2.fr (hf2 _) hM, Blk.made _ _ _⟩
    · have hlt' : ¬ (p : Int) < (j : Int) := by omega
      rcases hor with ⟨rfl, ⟨qb, rfl⟩, hno, hall⟩ | hgood
      · have HNO := Lib.hid (And.intro hno hall)
        clear hc hf hno hall
        go_wp2_with fail
        go_ret
        exact .no HC.out HF.out (fun h => by
          rcases HH.out h with h | ⟨q, h1, h2, h3⟩
          · exact HNO.out.1 h
          · exact HNO.out.2 q h1 (by omega) h3)
      · obtain ⟨ba, bb, ta, g, h, kd, rfl, rfl, hga, hgb, hgd⟩ := hgood
        have HGO := Lib.hid (And.intro hga (And.intro hgb hgd))
        clear hc hf hga hgb hgd
        have hblk := HGO.out.2.1
        obtain ⟨vf, pf, xw, vg, pg, xh, _, htf, hkf, hwh, htg, hkg, hhv, hblk⟩ := hblk
        obtain ⟨bvf, pvf, rfl⟩ := own_slice hkf
        obtain ⟨bvg, pvg, rfl⟩ := own_slice hkg
        obtain ⟨qw, rfl⟩ := hwh.shape
        obtain ⟨qh, rfl⟩ := hhv.shape
        have t12 := hblk.cell 12
        have t13 := hblk.cell 13
        have t14 := hblk.cell 14
        have t15 := hblk.cell 15
        unfold treeC at t12 t13 t14 t15
        simp at t12 t13 t14 t15
        have HTT := Lib.hid (And.intro htf (And.intro hkf (And.intro hwh (And.intro htg (And.intro hkg hhv)))))
        clear htf hkf hwh htg hkg hhv hblk

        go_wp2_with fail
        go_region_held3 (fun w' => w'.cell? ⟨bb, 12, none⟩ = some (.slice bvf pf.length pvf) ∧ w'.cell? ⟨bb, 13, none⟩ = some (.slice bvg pg.length pvg) ∧ w'.cell? ⟨bb, 14, none⟩ = some (.pointer qw) ∧ w'.cell? ⟨bb, 15, none⟩ = some (.pointer qh))
          (first | exact ⟨t12, t13, t14, t15⟩ | exact ⟨cell_alloc t12 _, cell_alloc t13 _, cell_alloc t14 _, cell_alloc t15 _⟩ | go_keep) (fail)
        all_goals go_wp2_with fail
        go_ret
        refine IsRes.drew (IsRes.at_ HC.out HF.out ((Below.refl _ _).alloc (Nat.le_refl _) _) HC.out.size (t := _) ?_ HGO.out.2.2)
        have hf2 : ∀ o, Fr (· = c.M) wr (wr.alloc o) := fun o => (Fr.refl _ _).alloc o
        exact ⟨.none, ta, g, h, rfl, _, pf, _, _, pg, _, HC.out.size, HTT.out.1.fr (hf2 _) hM, HTT.out.2.1.fr (hf2 _) hM, .inr ⟨ba, rfl, (show tr wr c.B ta [ba] from HGO.out.1).fr (hf2 _) hM⟩, HTT.out.2.2.2.1.fr (hf2 _) hM, HTT.out.2.2.2.2.1.fr (hf2 _) hM, HTT.out.2.2.2.2.2.fr (hf2 _) hM, Blk.made _ _ _⟩

/-- What the loop of grouped has found. -/
def Goodgrouped (c : Ctx) (i j : Nat) (av bv : Value) (w : World) : Prop :=
  ∃ ba bb ta h kd, av = .pointer (some ⟨ba, 0, none⟩) ∧ bv = .pointer (some ⟨bb, 0, none⟩) ∧ treeK w c.B .cols ta ba ∧ tailN w c.B kd .none .none .none h bb ∧ Bags.Der c.ws .grouped i j (.sel false .none .none .none ta h)
theorem Goodgrouped.fr {c : Ctx} {i j : Nat} {av bv : Value} {w w' : World} (h : Goodgrouped c i j av bv w) (hf : Fr (· = c.M) w w') (hM : c.M < c.B) : Goodgrouped c i j av bv w' := by
  obtain ⟨ba, bb, ta, h, kd, h1, h2, h3, h4, h5⟩ := h
  exact ⟨ba, bb, ta, h, kd, h1, h2, h3.fr hf hM, h4.fr hf hM, h5⟩
/-- What may stand behind, from q on. -/
def Optgrouped (ws : List Bags.W) (i j q : Nat) : Prop := Bags.Has ws .cols i q ∧ (Bags.wd ws q).is 1 [Bags.str "having"] = true ∧ Bags.Has ws .cond (q + 1) j

set_option maxRecDepth 100000 in
set_option maxHeartbeats 8000000 in
theorem tail_grouped {c : Ctx} {N : Nat} (hI : IsOK c N) {i j : Nat} (hij : i < j) (hj : j ≤ c.n) (hN : rank 4 i j ≤ N) (w : World) (h : CS c w) :
    Calls Tryz.prog 86 #[.pointer (some ⟨c.C, 0, none⟩), .int .i64 4, .int .i64 i, .int .i64 j] w (IsRes c .grouped i j w) := by
  have hn := h.pos.2
  have HIS := Lib.hid hI
  have HH := Lib.hid (show Bags.Has c.ws .grouped i j → Bags.Has c.ws .cols i j ∨ ∃ q, i < q ∧ q < j ∧ Optgrouped c.ws i j q from fun h => by
    rcases h.grouped with h | ⟨q, h1, h2, h3⟩
    · exact .inl h
    · exact .inr ⟨q, h1, h2, h3⟩)
  have h1 : Calls Tryz.prog 42 #[.pointer (some ⟨c.C, 0, none⟩), .int .i64 9, .int .i64 i, .int .i64 j] w (IsRes c .cols i j w) :=
    hI 9 i j w (by decide) (Nat.lt_of_lt_of_le (rank_same (by decide)) hN) (by omega) (by omega) h
  have H1 := Lib.hid h1
  clear hI h1 h
  go_enter Tryz.func86, Tryz.ntmps86
  go_wp2_with fail
  refine H1.out.mono ?_
  rintro e w1 ⟨hc, hf, hr⟩
  have HC1 := Lib.hid hc
  have HF1 := Lib.hid hf
  have hsz1 := hc.size
  have hM := hc.lt.2.2.1
  have hv : ∃ q, e = .returned (.pointer q) := by rcases hr with ⟨rfl, _⟩ | ⟨b, t, rfl, _⟩ <;> exact ⟨_, rfl⟩
  obtain ⟨q0, rfl⟩ := hv
  have HR := Lib.hid hr
  have HFA := fun o => ((Fr.refl (· = c.M) w1).alloc o)
  have HFA := Lib.hid HFA
  clear hc hf hr
  go_wp2_with fail
  go_loopw [10, 11, 12] (fun av bv pv wr => ∃ p : Nat, pv = .int .i64 p ∧ i + 1 ≤ p ∧ p ≤ j ∧ CS c wr ∧ Fr (· = c.M) w wr ∧ ((av = .pointer none ∧ (∃ q, bv = .pointer q) ∧ ¬ Bags.Has c.ws .cols i j ∧ ∀ q, i < q → q < p → ¬ Optgrouped c.ws i j q) ∨ Goodgrouped c i j av bv wr)) (fun _ _ pv _ => j - (intOf pv).toNat)
  case atStart =>
    refine ⟨i + 1, by simp, Nat.le_refl _, hij, HC1.out.alloc _, HF1.out.alloc _, ?_⟩
    rcases HR.out with ⟨hq, hno⟩ | ⟨b, t, hq, hb, ht, hd⟩
    · injection hq with hq
      exact .inl ⟨hq, ⟨_, rfl⟩, hno, fun q h1 h2 => absurd h2 (by omega)⟩
    · injection hq with hq
      exact .inr ⟨b, _, t, .none, [], hq, rfl, ht.fr (HFA.out _) hM, tailN.empty w1 c.B hsz1, .g1 hd⟩
  case round =>
    rename_i wr
    obtain ⟨p, rfl, hp1, hp2, hc, hf, hor⟩ := hrel
    have HC := Lib.hid hc
    have HF := Lib.hid hf
    by_cases hlt : p < j
    · have hlt' : (p : Int) < (j : Int) := by omega
      rcases hor with ⟨rfl, ⟨qb, rfl⟩, hno, hall⟩ | hgood
      · have HNO := Lib.hid (And.intro hno hall)
        have hKW := key_any c wr hc p ⟨#[119, 104, 101, 114, 101]⟩
        have hKG := key_any c wr hc p ⟨#[103, 114, 111, 117, 112]⟩
        have hKY := key_any c wr hc (p + 1) ⟨#[98, 121]⟩
        have hKH := key_any c wr hc p ⟨#[104, 97, 118, 105, 110, 103]⟩
        rw [← str_where] at hKW
        rw [← str_group] at hKG
        rw [← str_by, show ((p + 1 : Nat) : Int) = (p : Int) + 1 by omega] at hKY
        rw [← str_having] at hKH
        unfold ptr at hKW hKG hKY hKH
        have hne1 : (Bags.wd c.ws p).is 1 [Bags.str "where"] = true → (Bags.wd c.ws p).is 1 [Bags.str "group"] = false := fun h => Bags.is_not h (.inr (by decide))
        have HSTEP := Lib.hid (fun (h : ¬ Optgrouped c.ws i j p) => show ∀ q, i < q → q < p + 1 → ¬ Optgrouped c.ws i j q from fun q h1 h2 => by
          rcases Nat.lt_or_ge q p with h3 | h3
          · exact HNO.out.2 q h1 h3
          · obtain rfl : q = p := by omega
            exact h)
        generalize hbw : (Bags.wd c.ws p).is 1 [Bags.str "where"] = BW at *
        generalize hbg : (Bags.wd c.ws p).is 1 [Bags.str "group"] = BG at *
        generalize hby : (Bags.wd c.ws (p + 1)).is 1 [Bags.str "by"] = BY at *
        generalize hbh : (Bags.wd c.ws p).is 1 [Bags.str "having"] = BH at *
        have HB := Lib.hid (And.intro hbw (And.intro hbg (And.intro hby (And.intro hbh hne1))))
        have HKW := Lib.hid hKW
        have HKG := Lib.hid hKG
        have HKY := Lib.hid hKY
        have HKH := Lib.hid hKH
        clear hc hf hno hall hKW hKG hKY hKH hbw hbg hby hbh hne1
        go_wp2_with fail
        refine HKW.out.mono ?_
        rintro e w2 ⟨rfl, rfl⟩
        go_upto_region 13 with fail
        go_cut [14] from 31 to 99 (fun v wx => v = .bool (BG && BY) ∧ wr = wx)
        case first =>
          cases BG
          · go_wp2_with fail
            refine HKG.out.mono ?_
            rintro e w2 ⟨rfl, rfl⟩
            go_wp2_with fail
            go_meet
            case rel => exact ⟨by simp, rfl⟩
          · go_wp2_with fail
            refine HKG.out.mono ?_
            rintro e w2 ⟨rfl, rfl⟩
            go_wp2_with fail
            refine HKY.out.mono ?_
            rintro e w2 ⟨rfl, rfl⟩
            go_wp2_with fail
            go_meet
            case rel => exact ⟨by simp, rfl⟩
        case rest =>
          obtain ⟨rfl, rfl⟩ := hcut
          generalize hgb : (BG && BY) = GB at *
          have HGB := Lib.hid hgb
          clear hgb
          go_wp2_with fail
          refine HKH.out.mono ?_
          rintro e w2 ⟨rfl, rfl⟩
          have HISF : ∀ W, CS c W → Calls Tryz.prog 42 #[.pointer (some ⟨c.C, 0, none⟩), .int .i64 9, .int .i64 i, .int .i64 p] W (IsRes c .cols i p W) := fun W h =>
            HIS.out 9 i p W (by decide) (Nat.lt_of_lt_of_le (rank_lt (k := 4) (i := i) (j := j) (by omega)) hN) (by omega) (by omega) h
          have HISF := Lib.hid HISF
          have hIS3 : ∀ W, CS c W → Calls Tryz.prog 42 #[.pointer (some ⟨c.C, 0, none⟩), .int .i64 3, .int .i64 (p + 1 : Nat), .int .i64 j] W (IsRes c .after (p + 1) j W) := fun W h =>
            HIS.out 3 (p + 1) j W (by decide) (Nat.lt_of_lt_of_le (rank_lt (k := 4) (i := i) (j := j) (by omega)) hN) (by omega) (by omega) h
          have hIS4 : ∀ W, CS c W → Calls Tryz.prog 42 #[.pointer (some ⟨c.C, 0, none⟩), .int .i64 4, .int .i64 (p + 2 : Nat), .int .i64 j] W (IsRes c .grouped (p + 2) j W) := fun W h =>
            HIS.out 4 (p + 2) j W (by decide) (Nat.lt_of_lt_of_le (rank_lt (k := 4) (i := i) (j := j) (by omega)) hN) (by omega) (by omega) h
          have hIS5 : ∀ W, CS c W → Calls Tryz.prog 42 #[.pointer (some ⟨c.C, 0, none⟩), .int .i64 11, .int .i64 (p + 1 : Nat), .int .i64 j] W (IsRes c .cond (p + 1) j W) := fun W h =>
            HIS.out 11 (p + 1) j W (by decide) (Nat.lt_of_lt_of_le (rank_lt (k := 4) (i := i) (j := j) (by omega)) hN) (by omega) (by omega) h
          simp only [show ((p + 1 : Nat) : Int) = (p : Int) + 1 by omega] at hIS3 hIS5
          simp only [show ((p + 2 : Nat) : Int) = (p : Int) + 2 by omega] at hIS4
          have HIS3 := Lib.hid hIS3
          have HIS4 := Lib.hid hIS4
          have HIS5 := Lib.hid hIS5
          clear hIS3 hIS4 hIS5
          cases BH
          · cases BW
            all_goals
              cases GB
              all_goals
                go_wp2_with fail
                exact ⟨⟨p + 1, by simp, by omega, by omega, HC.out, HF.out, .inl ⟨rfl, ⟨_, rfl⟩, HNO.out.1, HSTEP.out (fun h => absurd (HB.out.2.2.2.1.symm.trans h.2.1) (by decide))⟩⟩, by simp [intOf]; omega⟩
          · cases BW
            all_goals
              cases GB
              all_goals
                go_wp2_with fail
                refine (HIS5.out _ HC.out).mono ?_
                rintro e w4 ⟨hc4, hf4, h4⟩
                have HC4 := Lib.hid hc4
                have HF4 := Lib.hid (HF.out.trans hf4 (fun _ _ h => h))
                clear hc4 hf4
                rcases h4 with ⟨rfl, hno4⟩ | ⟨b4, t4, rfl, hb4, ht4, hd4⟩
                · go_wp2_with fail
                  exact ⟨⟨p + 1, by simp, by omega, by omega, HC4.out, HF4.out, .inl ⟨rfl, ⟨_, rfl⟩, HNO.out.1, HSTEP.out (fun h => hno4 h.2.2)⟩⟩, by simp [intOf]; omega⟩
                · have HT4 := Lib.hid (And.intro ht4 hd4)
                  clear ht4 hd4
                  have HN4 := Lib.hid (tailN.having HC4.out.size (x := b4) (h := t4) c.M hM HT4.out.1)
                  go_wp2_with fail
                  refine (HISF.out _ (HC4.out.alloc _)).mono ?_
                  rintro e w5 ⟨hc5, hf5, h5⟩
                  have HC5 := Lib.hid hc5
                  have HF45 := Lib.hid hf5
                  have HF5 := Lib.hid ((HF4.out.alloc _).trans hf5 (fun _ _ h => h))
                  clear hc5 hf5
                  rcases h5 with ⟨rfl, hno5⟩ | ⟨b5, t5, rfl, hb5, ht5, hd5⟩
                  · go_wp2_with fail
                    exact ⟨⟨p + 1, by simp, by omega, by omega, HC5.out, HF5.out, .inl ⟨rfl, ⟨_, rfl⟩, HNO.out.1, HSTEP.out (fun h => hno5 h.1)⟩⟩, by simp [intOf]; omega⟩
                  · have HT5 := Lib.hid (And.intro ht5 hd5)
                    clear ht5 hd5
                    go_wp2_with fail
                    exact ⟨⟨p + 1, by simp, by omega, by omega, HC5.out, HF5.out, .inr ⟨b5, _, t5, _, _, rfl, rfl, HT5.out.1, HN4.out.fr HF45.out hM, .g2 HB.out.2.2.2.1 HT5.out.2 HT4.out.2⟩⟩, by simp [intOf]; omega⟩
      · obtain ⟨ba, bb, ta, h, kd, rfl, rfl, hga, hgb, hgd⟩ := hgood
        have HGO := Lib.hid (And.intro hga (And.intro hgb hgd))
        clear hc hf hga hgb hgd
        have hblk := HGO.out.2.1
        obtain ⟨vf, pf, xw, vg, pg, xh, _, htf, hkf, hwh, htg, hkg, hhv, hblk⟩ := hblk
        obtain ⟨bvf, pvf, rfl⟩ := own_slice hkf
        obtain ⟨bvg, pvg, rfl⟩ := own_slice hkg
        obtain ⟨qw, rfl⟩ := hwh.shape
        obtain ⟨qh, rfl⟩ := hhv.shape
        have t12 := hblk.cell 12
        have t13 := hblk.cell 13
        have t14 := hblk.cell 14
        have t15 := hblk.cell 15
        unfold treeC at t12 t13 t14 t15
        simp at t12 t13 t14 t15
        have HTT := Lib.hid (And.intro htf (And.intro hkf (And.intro hwh (And.intro htg (And.intro hkg hhv)))))
        clear htf hkf hwh htg hkg hhv hblk
        obtain ⟨ks, hks, htk, bl', vl, hbl', _, hkv, hlblk⟩ := HGO.out.1
        injection hbl' with hbl'
        subst hbl'
        obtain ⟨bvl, pvl, rfl⟩ := own_slice hkv
        have l10 := hlblk.cell 10
        unfold treeC at l10
        simp at l10
        have l10' := fun o => cell_alloc l10 o
        have HLT := Lib.hid (And.intro hks (And.intro htk hkv))
        clear hks htk hkv hlblk
        go_wp2_with fail
        go_region_held3 (fun w' => w'.cell? ⟨bb, 12, none⟩ = some (.slice bvf pf.length pvf) ∧ w'.cell? ⟨bb, 13, none⟩ = some (.slice bvg pg.length pvg) ∧ w'.cell? ⟨bb, 14, none⟩ = some (.pointer qw) ∧ w'.cell? ⟨bb, 15, none⟩ = some (.pointer qh))
          (first | exact ⟨t12, t13, t14, t15⟩ | exact ⟨cell_alloc t12 _, cell_alloc t13 _, cell_alloc t14 _, cell_alloc t15 _⟩ | go_keep) (fail)
        all_goals go_wp2_with fail
        go_ret
        refine IsRes.drew (IsRes.at_ HC.out HF.out ((Below.refl _ _).alloc (Nat.le_refl _) _) HC.out.size (t := _) ?_ HGO.out.2.2)
        have hf2 : ∀ o, Fr (· = c.M) wr (wr.alloc o) := fun o => (Fr.refl _ _).alloc o
        exact ⟨.none, .none, ta, h, rfl, _, pf, _, _, ks, _, HC.out.size, HTT.out.1.fr (hf2 _) hM, HTT.out.2.1.fr (hf2 _) hM, HTT.out.2.2.1.fr (hf2 _) hM, HLT.out.2.1.fr (hf2 _) hM, HLT.out.2.2.fr (hf2 _) hM, HTT.out.2.2.2.2.2.fr (hf2 _) hM, Blk.made _ _ _⟩
    · have hlt' : ¬ (p : Int) < (j : Int) := by omega
      rcases hor with ⟨rfl, ⟨qb, rfl⟩, hno, hall⟩ | hgood
      · have HNO := Lib.hid (And.intro hno hall)
        clear hc hf hno hall
        go_wp2_with fail
        go_ret
        exact .no HC.out HF.out (fun h => by
          rcases HH.out h with h | ⟨q, h1, h2, h3⟩
          · exact HNO.out.1 h
          · exact HNO.out.2 q h1 (by omega) h3)
      · obtain ⟨ba, bb, ta, h, kd, rfl, rfl, hga, hgb, hgd⟩ := hgood
        have HGO := Lib.hid (And.intro hga (And.intro hgb hgd))
        clear hc hf hga hgb hgd
        have hblk := HGO.out.2.1
        obtain ⟨vf, pf, xw, vg, pg, xh, _, htf, hkf, hwh, htg, hkg, hhv, hblk⟩ := hblk
        obtain ⟨bvf, pvf, rfl⟩ := own_slice hkf
        obtain ⟨bvg, pvg, rfl⟩ := own_slice hkg
        obtain ⟨qw, rfl⟩ := hwh.shape
        obtain ⟨qh, rfl⟩ := hhv.shape
        have t12 := hblk.cell 12
        have t13 := hblk.cell 13
        have t14 := hblk.cell 14
        have t15 := hblk.cell 15
        unfold treeC at t12 t13 t14 t15
        simp at t12 t13 t14 t15
        have HTT := Lib.hid (And.intro htf (And.intro hkf (And.intro hwh (And.intro htg (And.intro hkg hhv)))))
        clear htf hkf hwh htg hkg hhv hblk
        obtain ⟨ks, hks, htk, bl', vl, hbl', _, hkv, hlblk⟩ := HGO.out.1
        injection hbl' with hbl'
        subst hbl'
        obtain ⟨bvl, pvl, rfl⟩ := own_slice hkv
        have l10 := hlblk.cell 10
        unfold treeC at l10
        simp at l10
        have l10' := fun o => cell_alloc l10 o
        have HLT := Lib.hid (And.intro hks (And.intro htk hkv))
        clear hks htk hkv hlblk
        go_wp2_with fail
        go_region_held3 (fun w' => w'.cell? ⟨bb, 12, none⟩ = some (.slice bvf pf.length pvf) ∧ w'.cell? ⟨bb, 13, none⟩ = some (.slice bvg pg.length pvg) ∧ w'.cell? ⟨bb, 14, none⟩ = some (.pointer qw) ∧ w'.cell? ⟨bb, 15, none⟩ = some (.pointer qh))
          (first | exact ⟨t12, t13, t14, t15⟩ | exact ⟨cell_alloc t12 _, cell_alloc t13 _, cell_alloc t14 _, cell_alloc t15 _⟩ | go_keep) (fail)
        all_goals go_wp2_with fail
        go_ret
        refine IsRes.drew (IsRes.at_ HC.out HF.out ((Below.refl _ _).alloc (Nat.le_refl _) _) HC.out.size (t := _) ?_ HGO.out.2.2)
        have hf2 : ∀ o, Fr (· = c.M) wr (wr.alloc o) := fun o => (Fr.refl _ _).alloc o
        exact ⟨.none, .none, ta, h, rfl, _, pf, _, _, ks, _, HC.out.size, HTT.out.1.fr (hf2 _) hM, HTT.out.2.1.fr (hf2 _) hM, HTT.out.2.2.1.fr (hf2 _) hM, HLT.out.2.1.fr (hf2 _) hM, HLT.out.2.2.fr (hf2 _) hM, HTT.out.2.2.2.2.2.fr (hf2 _) hM, Blk.made _ _ _⟩
end Go.Proofs.YtoephflcjllaaaaGreatDoor
