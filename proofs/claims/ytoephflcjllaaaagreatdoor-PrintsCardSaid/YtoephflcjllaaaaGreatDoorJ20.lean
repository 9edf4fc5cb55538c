/- Walk: the words of a query. -/
import Derived.Test.YtoephflcjllaaaaGreatDoorJ04
namespace Go.Proofs.YtoephflcjllaaaaGreatDoor
open Go.RowKit
set_option maxRecDepth 100000 in
set_option maxHeartbeats 8000000 in
theorem words_any (hP : ParseSaid) (s : ByteArray) (w : World) (hs : s.size ≤ 140737488351232) (hv : Vars w) :
    Calls Tryz.prog 60 #[.string s] w fun e w' => WordsPost s w e w' := by
  by_cases hlong : 400 < s.size
  · have HN := Lib.hid (show Bags.words (bs s) = .inl 400 by unfold Bags.words; rw [if_pos (by rw [bs_length]; exact hlong)])
    go_enter Tryz.func60, Tryz.ntmps60
    go_wp2_with (go_at_call 65; refine (fault_any _ _ _).mono ?_; rintro e w' ⟨rfl, rfl⟩)
    exact ⟨rfl, post_no HN.out ((Below.refl _ _).alloc (Nat.le_refl _) _) (Nat.le_refl _) (Blk.made _ _ _)⟩
  · have hSz : s.size ≤ maxLen := by unfold maxLen; omega
    have H0 := Lib.hid (show Seen s 0 [] by unfold Seen; rw [Bags.ahead_nil, Bags.words_at _ (by rw [bs_length]; exact hlong)])
    go_enter Tryz.func60, Tryz.ntmps60
    go_wp2_with fail
    go_loopw [3, 4] (fun o v wr => ∃ k acc, k ≤ s.size ∧ v = .int .i64 (k : Nat) ∧ Seen s k acc ∧ wr.ownsRow w.heap.size 149 3 o acc.length (acc.flatMap wordCells) ∧ acc.length ≤ k ∧ Below w.heap.size w wr)
      (fun _ v _ => s.size - (intOf v).toNat)
    case atStart => exact ⟨0, [], by omega, rfl, H0.out, ⟨by simp, .inl ⟨rfl, rfl⟩⟩, by simp, Below.refl _ _⟩
    case round =>
      rename_i wr
      obtain ⟨k, acc, hk, rfl, hq, hown, hacc, hbl⟩ := hrel
      have HQ := Lib.hid hq
      have HB := Lib.hid hbl
      have hbs := hbl.size
      have HV := Lib.hid (hv.below hbl hv.size)
      clear hq hbl H0
      by_cases hlt : k < s.size
      · have HD := Lib.hid (drop_cons s k hlt)
        by_cases hblank : s[k] = 32 ∨ s[k] = 9 ∨ s[k] = 10
        · have HX := Lib.hid (HQ.out.step hlt (HD.out.symm ▸ lx_blank hblank))
          rcases hblank with hc | hc | hc
          · have t1 := tst_t s[k] (n := 32) 32 rfl hc
            clear hc
            go_wp2_with fail
            go_roundw
            case rel => exact ⟨k + 1, acc, by omega, by go_num, by simpa using HX.out, hown.alloc _, by first | omega | (simp; omega), HB.out.alloc hbs _⟩
            case measure => simp [intOf]; omega
          · have t1 := tst_f s[k] (n := 32) 32 rfl (by rw [hc]; decide)
            have t2 := tst_t s[k] (n := 9) 9 rfl hc
            clear hc
            go_wp2_with fail
            go_roundw
            case rel => exact ⟨k + 1, acc, by omega, by go_num, by simpa using HX.out, hown.alloc _, by first | omega | (simp; omega), HB.out.alloc hbs _⟩
            case measure => simp [intOf]; omega
          · have t1 := tst_f s[k] (n := 32) 32 rfl (by rw [hc]; decide)
            have t2 := tst_f s[k] (n := 9) 9 rfl (by rw [hc]; decide)
            have t3 := tst_t s[k] (n := 10) 10 rfl hc
            clear hc
            go_wp2_with fail
            go_roundw
            case rel => exact ⟨k + 1, acc, by omega, by go_num, by simpa using HX.out, hown.alloc _, by first | omega | (simp; omega), HB.out.alloc hbs _⟩
            case measure => simp [intOf]; omega
        · have t1 := tst_f s[k] (n := 32) 32 rfl (fun h => hblank (.inl h))
          have t2 := tst_f s[k] (n := 9) 9 rfl (fun h => hblank (.inr (.inl h)))
          have t3 := tst_f s[k] (n := 10) 10 rfl (fun h => hblank (.inr (.inr h)))
          by_cases hrem : s[k] = 45 ∧ ((bs s).drop (k + 1)).head? = some 45
          · have hn : k + 1 < s.size := by
              rcases Nat.lt_or_ge (k + 1) s.size with h | h
              · exact h
              · rw [drop_nil s (k + 1) h] at hrem; cases hrem.2
            have hn2 : s[k+1] = 45 := by have := hrem.2; rw [drop_cons s (k + 1) hn] at this; simpa using this
            have t4 := tst_t s[k] (n := 45) 45 rfl hrem.1
            have t5 := tst_t s[k+1] (n := 45) 45 rfl hn2
            obtain ⟨hj1, hj2, _, hj4⟩ := span_word (p := (· != 10)) hlt (by rw [hrem.1]; decide)
            have hx := lx_rem hblank hrem
            rw [hj4, ← HD.out] at hx
            have hsp := fun W => span_any 77 #[] (· != 10) s k W hSz (by omega) Tryz.call77 (fun c => noline_any c W)
            have HX := Lib.hid (HQ.out.step hlt hx)
            generalize spanTo (· != 10) s k = J at hsp HX hj1 hj2
            have HS := Lib.hid hsp
            clear hsp hx hj4 hn2 hrem hblank
            go_wp2_with (go_at_call 45; refine (HS.out _).mono ?_; rintro e w' ⟨rfl, rfl⟩)
            go_roundw
            case rel => exact ⟨J, acc, by omega, by go_num, by have := HX.out; rw [show k + (J - k) = J by omega] at this; simpa using this, hown.alloc _, by first | omega | (simp; omega), HB.out.alloc hbs _⟩
            case measure => simp [intOf]; omega
          · cases hlet : Bags.letter s[k] with
            | true =>
              have t4 := tst_f s[k] (n := 45) 45 rfl (by intro h; rw [h] at hlet; revert hlet; decide)
              have hL := letter_any s[k]
              rw [hlet] at hL
              have HL := Lib.hid hL
              obtain ⟨hj1, hj2, hj3, hj4⟩ := span_word (p := Bags.alnum) hlt (by simp [Bags.alnum, hlet])
              have hx := lx_letter (r := (bs s).drop (k + 1)) hlet
              rw [hj4, hj3, ← HD.out] at hx
              have hsp := fun W => span_any 78 #[] Bags.alnum s k W hSz (by omega) Tryz.call78 (fun c => alnum_any_words c W)
              have HX := Lib.hid (HQ.out.step hlt hx)
              have hK := fun W => keyword_any (s.extract k (spanTo Bags.alnum s k)) W
              rw [bs_toList] at hK
              generalize spanTo Bags.alnum s k = J at hsp HX hj1 hj2 hK
              have HS := Lib.hid hsp
              clear hsp hx hj3 hj4 hrem hblank hL
              cases hkw : Bags.keywords.contains (bs (s.extract k J)) with
              | false =>
                rw [hkw] at hK HX
                have HK := Lib.hid hK
                clear hK hkw hlet
                go_wp2_with (first | (go_at_call 45; refine (HS.out _).mono ?_; rintro e w' ⟨rfl, rfl⟩) | (go_at_call 70; refine (HL.out _).mono ?_; rintro e w' ⟨rfl, rfl⟩) | (go_at_call 73; refine (HK.out _).mono ?_; rintro e w' ⟨rfl, rfl⟩) | (at_builtin; refine wpList_append_one rfl _ _ rfl (base := w.heap.size) elem_words rfl ((hown.alloc _).alloc _) (cs := #[.int .i64 2, .string (s.extract k J), .int .i64 0]) rfl (by simp) rfl (by simp [Value.oneCell']) (by unfold maxLen; omega) (by omega) (by simp; omega) ?_; intro b' w1 hown1 hb1 _ hz1))
                go_roundw
                case rel => exact ⟨J, acc ++ [⟨2, bs (s.extract k J), 0⟩], by omega, by go_num, by have := HX.out; rw [show k + (J - k) = J by omega] at this; simpa using this, by simpa [wordCells] using hown1, by first | omega | (simp; omega), ((HB.out.alloc hbs _).alloc (by simp; omega) _).trans hb1⟩
                case measure => simp [intOf]; omega
              | true =>
                rw [hkw] at hK HX
                have HK := Lib.hid hK
                clear hK hkw hlet
                go_wp2_with (first | (go_at_call 45; refine (HS.out _).mono ?_; rintro e w' ⟨rfl, rfl⟩) | (go_at_call 70; refine (HL.out _).mono ?_; rintro e w' ⟨rfl, rfl⟩) | (go_at_call 73; refine (HK.out _).mono ?_; rintro e w' ⟨rfl, rfl⟩) | (at_builtin; refine wpList_append_one rfl _ _ rfl (base := w.heap.size) elem_words rfl ((hown.alloc _).alloc _) (cs := #[.int .i64 1, .string (s.extract k J), .int .i64 0]) rfl (by simp) rfl (by simp [Value.oneCell']) (by unfold maxLen; omega) (by omega) (by simp; omega) ?_; intro b' w1 hown1 hb1 _ hz1))
                go_roundw
                case rel => exact ⟨J, acc ++ [⟨1, bs (s.extract k J), 0⟩], by omega, by go_num, by have := HX.out; rw [show k + (J - k) = J by omega] at this; simpa using this, by simpa [wordCells] using hown1, by first | omega | (simp; omega), ((HB.out.alloc hbs _).alloc (by simp; omega) _).trans hb1⟩
                case measure => simp [intOf]; omega
            | false =>
              have hL := letter_any s[k]
              rw [hlet] at hL
              have HL := Lib.hid hL
              clear hL
              cases hdig : Bags.digit s[k] with
              | true =>
                have t4 := tst_f s[k] (n := 45) 45 rfl (by intro h; rw [h] at hdig; revert hdig; decide)
                have hG := digit_any s[k]
                rw [hdig] at hG
                have HG := Lib.hid hG
                obtain ⟨hj1, hj2, hj3, hj4⟩ := span_word (p := Bags.digit) hlt hdig
                have hx := lx_digit (r := (bs s).drop (k + 1)) hdig
                have hall : ∀ c ∈ bs (s.extract k (spanTo Bags.digit s k)), Bags.digit c = true := by
                  rw [← hj3]; exact List.all_eq_true.1 List.all_takeWhile
                rw [hj4, hj3, ← HD.out] at hx
                have hsp := fun W => span_any 72 #[] Bags.digit s k W hSz (by omega) Tryz.call72 (fun c => digit_any c W)
                have hne : bs (s.extract k (spanTo Bags.digit s k)) ≠ [] := by
                  intro e
                  have := congrArg List.length e
                  rw [← hj3, hj4] at this
                  simp at this; omega
                generalize spanTo Bags.digit s k = J at hsp hx hj1 hj2 hall hne
                have hpi := parseInt_digits _ hne hall
                have hle := size_extract_le s k J
                have HS := Lib.hid hsp
                clear hsp hj3 hj4 hrem hblank hG hall hne
                by_cases hn : Bags.natOf (bs (s.extract k J)) < 2 ^ 63
                · rw [if_pos hn] at hx hpi
                  have HX := Lib.hid (HQ.out.step hlt hx)
                  have HP := Lib.hid (fun W (h : Vars W) => hP.ok (s.extract k J) _ W h (by omega) hpi)
                  generalize Bags.natOf (bs (s.extract k J)) = N at HX HP
                  clear hpi hx hn hlet hdig hle
                  have HV2 := HV.out.alloc (.cells #[.int .u8 s[k].toNat] 5)
                  have HV3 := Lib.hid HV2
                  clear HV2
                  go_wp2_with (first | (go_at_call 45; refine (HS.out _).mono ?_; rintro e w' ⟨rfl, rfl⟩) | (go_at_call 70; refine (HL.out _).mono ?_; rintro e w' ⟨rfl, rfl⟩) | (go_at_call 72; refine (HG.out _).mono ?_; rintro e w' ⟨rfl, rfl⟩) | (go_at_call 74; refine (HP.out _ HV3.out).mono ?_; rintro e w' ⟨rfl, hbp⟩; have hzp := hbp.size; have hownp := own_later (hown.alloc _) hbp; have HBP := Lib.hid ((HB.out.alloc hbs _).trans (hbp.mono (by simp; omega))); clear hbp; simp only [World.size_alloc] at hzp) | (at_builtin; refine wpList_append_one rfl _ _ rfl (base := w.heap.size) elem_words rfl (hownp) (cs := #[.int .i64 3, .string (tx []), .int .i64 N]) rfl (by simp) rfl (by simp [Value.oneCell']) (by unfold maxLen; omega) (by omega) (by omega) ?_; intro b' w1 hown1 hb1 _ hz1))
                  go_roundw
                  case rel => exact ⟨J, acc ++ [⟨3, [], N⟩], by omega, by go_num, by have := HX.out; rw [show k + (J - k) = J by omega] at this; simpa using this, by simpa [wordCells, tx] using hown1, by first | omega | (simp; omega), HBP.out.trans hb1⟩
                  case measure => simp [intOf]; omega
                · rw [if_neg hn] at hx hpi
                  have HX := Lib.hid (HQ.out.no hlt hx)
                  have HP := Lib.hid (fun W (h : Vars W) => hP.no (s.extract k J) W h (by omega) (by rw [hpi]; intro v h; cases h))
                  clear hpi hx hn hlet hdig hle
                  have HV2 := HV.out.alloc (.cells #[.int .u8 s[k].toNat] 5)
                  have HV3 := Lib.hid HV2
                  clear HV2
                  go_wp2_with (first | (go_at_call 45; refine (HS.out _).mono ?_; rintro e w' ⟨rfl, rfl⟩) | (go_at_call 70; refine (HL.out _).mono ?_; rintro e w' ⟨rfl, rfl⟩) | (go_at_call 72; refine (HG.out _).mono ?_; rintro e w' ⟨rfl, rfl⟩) | (go_at_call 65; refine (fault_any _ _ _).mono ?_; rintro e w' ⟨rfl, rfl⟩) | (go_at_call 74; refine (HP.out _ HV3.out).mono ?_; rintro e w' ⟨v, N, rfl, hbp⟩; have hzp := hbp.size; have hownp := own_later (hown.alloc _) hbp; have HBP := Lib.hid ((HB.out.alloc hbs _).trans (hbp.mono (by simp; omega))); clear hbp; simp only [World.size_alloc] at hzp))
                  exact ⟨rfl, post_no HX.out (HBP.out.alloc (by omega) _) (by omega) (Blk.made _ _ _)⟩
              | false =>
                have hG := digit_any s[k]
                rw [hdig] at hG
                have HG := Lib.hid hG
                clear hG
                by_cases hquo : s[k] = 39
                · have t4 := tst_f s[k] (n := 45) 45 rfl (by rw [hquo]; decide)
                  have t5 := tst_t s[k] (n := 39) 39 rfl hquo
                  have hx0 := HD.out
                  rw [hquo] at hx0
                  have hx := @lx_quote ((bs s).drop (k + 1))
                  rw [← hx0] at hx
                  clear hx0
                  have hQ := fun W => quoted_any s k W hs hlt
                  cases hq : Bags.quo ((bs s).drop (k + 1)) with
                  | none =>
                    rw [hq] at hx
                    have hr : quoRes s k = .tuple #[.string (tx []), .int .i64 (-1)] := by unfold quoRes; rw [hq]
                    rw [hr] at hQ
                    have HX := Lib.hid (HQ.out.no hlt hx)
                    have HK := Lib.hid hQ
                    clear hx hq hQ hr hquo hlet hdig hrem hblank
                    go_wp2_with (first | (go_at_call 70; refine (HL.out _).mono ?_; rintro e w' ⟨rfl, rfl⟩) | (go_at_call 72; refine (HG.out _).mono ?_; rintro e w' ⟨rfl, rfl⟩) | (go_at_call 65; refine (fault_any _ _ _).mono ?_; rintro e w' ⟨rfl, rfl⟩) | (go_at_call 47; refine (HK.out _).mono ?_; rintro e w' ⟨rfl, hbp⟩; have hzp := hbp.size; have hownp := own_later (hown.alloc _) hbp; have HBP := Lib.hid ((HB.out.alloc hbs _).trans (hbp.mono (by simp; omega))); clear hbp; simp only [World.size_alloc] at hzp))
                    exact ⟨rfl, post_no HX.out (HBP.out.alloc (by omega) _) (by omega) (Blk.made _ _ _)⟩
                  | some p =>
                    obtain ⟨t, j⟩ := p
                    rw [hq] at hx
                    have hr : quoRes s k = .tuple #[.string (tx t), .int .i64 (k + 1 + j : Nat)] := by unfold quoRes; rw [hq]
                    rw [hr] at hQ
                    have hx2 := step_le hlt hx
                    have HX := Lib.hid (HQ.out.step hlt hx)
                    have hj1 : k < k + 1 + j := by omega
                    have hj2 : k + 1 + j ≤ s.size := by omega
                    rw [show k + (j + 1) = k + 1 + j by omega] at HX
                    generalize k + 1 + j = J at hQ HX hj1 hj2
                    have HK := Lib.hid hQ
                    clear hx hx2 hq hQ hr hquo hlet hdig hrem hblank
                    go_wp2_with (first | (go_at_call 70; refine (HL.out _).mono ?_; rintro e w' ⟨rfl, rfl⟩) | (go_at_call 72; refine (HG.out _).mono ?_; rintro e w' ⟨rfl, rfl⟩) | (go_at_call 47; refine (HK.out _).mono ?_; rintro e w' ⟨rfl, hbp⟩; have hzp := hbp.size; have hownp := own_later (hown.alloc _) hbp; have HBP := Lib.hid ((HB.out.alloc hbs _).trans (hbp.mono (by simp; omega))); clear hbp; simp only [World.size_alloc] at hzp) | (at_builtin; refine wpList_append_one rfl _ _ rfl (base := w.heap.size) elem_words rfl (hownp) (cs := #[.int .i64 4, .string (tx t), .int .i64 0]) rfl (by simp) rfl (by simp [Value.oneCell']) (by unfold maxLen; omega) (by omega) (by omega) ?_; intro b' w1 hown1 hb1 _ hz1))
                    go_roundw
                    case rel => exact ⟨J, acc ++ [⟨4, t, 0⟩], by omega, by go_num, by simpa using HX.out, by simpa [wordCells] using hown1, by first | omega | (simp; omega), HBP.out.trans hb1⟩
                    case measure => simp [intOf]; omega
                · have t6 := tst_f s[k] (n := 39) 39 rfl hquo
                  have hsg : Sign s[k] ((bs s).drop (k + 1)) := ⟨hblank, hrem, by rw [hlet]; decide, by rw [hdig]; decide, hquo⟩
                  have hX : (s.extract k (k + 1 + 1)).toList = (s[k] :: (bs s).drop (k + 1)).take 2 := by rw [bs_toList, extract_eq, HD.out, show k + 1 + 1 - k = 2 by omega]
                  by_cases h2 : Bags.two.contains ((s[k] :: (bs s).drop (k + 1)).take 2) = true
                  · have hn : k + 1 < s.size := by
                      rcases Nat.lt_or_ge (k + 1) s.size with h | h
                      · exact h
                      · rw [drop_nil s (k + 1) h] at h2
                        have h3 : ∀ t ∈ Bags.two, t.length = 2 := by decide
                        have := h3 _ (List.contains_iff_mem.1 h2)
                        simp at this
                    have hm : (s.extract k (k + 1 + 1)).toList = [60, 62] ∨ (s.extract k (k + 1 + 1)).toList = [60, 61] ∨ (s.extract k (k + 1 + 1)).toList = [62, 61] := by
                      have := List.contains_iff_mem.1 h2
                      rw [← hX, show Bags.two = [[60, 62], [60, 61], [62, 61]] by decide] at this
                      simpa using this
                    have t4 := tst_f s[k] (n := 45) 45 rfl (by
                      intro h
                      have h4 : (s.extract k (k + 1 + 1)).toList.head? = some 45 := by rw [hX, h]; rfl
                      rcases hm with hm | hm | hm <;> rw [hm] at h4 <;> revert h4 <;> decide)
                    have hx := lx_two hsg h2
                    rw [← hX, bs_toList, ← HD.out] at hx
                    have HX := Lib.hid (show Seen s (k + 1 + 1) (acc ++ [⟨5, bs (s.extract k (k + 1 + 1)), 0⟩]) from HQ.out.step hlt hx)
                    clear hx hX h2 hsg hquo hlet hdig hrem hblank
                    rcases hm with hm | hm | hm
                    · have e1 : ((s.extract k (k + 1 + 1)).toList == [60, 62]) = true := by rw [hm]; rfl
                      clear hm
                      go_wp2_with (first | (go_at_call 70; refine (HL.out _).mono ?_; rintro e w' ⟨rfl, rfl⟩) | (go_at_call 72; refine (HG.out _).mono ?_; rintro e w' ⟨rfl, rfl⟩) | (at_builtin; refine wpList_append_one rfl _ _ rfl (base := w.heap.size) elem_words rfl (hown.alloc _) (cs := #[.int .i64 5, .string (s.extract k (k + 1 + 1)), .int .i64 0]) rfl (by simp) rfl (by simp [Value.oneCell']) (by unfold maxLen; omega) (by omega) (by simp; omega) ?_; intro b' w1 hown1 hb1 _ hz1))
                      go_roundw
                      case rel => exact ⟨k + 1 + 1, acc ++ [⟨5, bs (s.extract k (k + 1 + 1)), 0⟩], by omega, by go_num, HX.out, by simpa [wordCells] using hown1, by first | omega | (simp; omega), (HB.out.alloc hbs _).trans hb1⟩
                      case measure => simp [intOf]; omega
                    · have e1 : ((s.extract k (k + 1 + 1)).toList == [60, 62]) = false := by rw [hm]; rfl
                      have e2 : ((s.extract k (k + 1 + 1)).toList == [60, 61]) = true := by rw [hm]; rfl
                      clear hm
                      go_wp2_with (first | (go_at_call 70; refine (HL.out _).mono ?_; rintro e w' ⟨rfl, rfl⟩) | (go_at_call 72; refine (HG.out _).mono ?_; rintro e w' ⟨rfl, rfl⟩) | (at_builtin; refine wpList_append_one rfl _ _ rfl (base := w.heap.size) elem_words rfl (hown.alloc _) (cs := #[.int .i64 5, .string (s.extract k (k + 1 + 1)), .int .i64 0]) rfl (by simp) rfl (by simp [Value.oneCell']) (by unfold maxLen; omega) (by omega) (by simp; omega) ?_; intro b' w1 hown1 hb1 _ hz1))
                      go_roundw
                      case rel => exact ⟨k + 1 + 1, acc ++ [⟨5, bs (s.extract k (k + 1 + 1)), 0⟩], by omega, by go_num, HX.out, by simpa [wordCells] using hown1, by first | omega | (simp; omega), (HB.out.alloc hbs _).trans hb1⟩
                      case measure => simp [intOf]; omega
                    · have e1 : ((s.extract k (k + 1 + 1)).toList == [60, 62]) = false := by rw [hm]; rfl
                      have e2 : ((s.extract k (k + 1 + 1)).toList == [60, 61]) = false := by rw [hm]; rfl
                      have e3 : ((s.extract k (k + 1 + 1)).toList == [62, 61]) = true := by rw [hm]; rfl
                      clear hm
                      go_wp2_with (first | (go_at_call 70; refine (HL.out _).mono ?_; rintro e w' ⟨rfl, rfl⟩) | (go_at_call 72; refine (HG.out _).mono ?_; rintro e w' ⟨rfl, rfl⟩) | (at_builtin; refine wpList_append_one rfl _ _ rfl (base := w.heap.size) elem_words rfl (hown.alloc _) (cs := #[.int .i64 5, .string (s.extract k (k + 1 + 1)), .int .i64 0]) rfl (by simp) rfl (by simp [Value.oneCell']) (by unfold maxLen; omega) (by omega) (by simp; omega) ?_; intro b' w1 hown1 hb1 _ hz1))
                      go_roundw
                      case rel => exact ⟨k + 1 + 1, acc ++ [⟨5, bs (s.extract k (k + 1 + 1)), 0⟩], by omega, by go_num, HX.out, by simpa [wordCells] using hown1, by first | omega | (simp; omega), (HB.out.alloc hbs _).trans hb1⟩
                      case measure => simp [intOf]; omega
                  · have h2 : Bags.two.contains ((s[k] :: (bs s).drop (k + 1)).take 2) = false := by simpa using h2
                    have e1 : ((s.extract k (k + 1 + 1)).toList == [60, 62]) = false := by
                      rw [hX, beq_eq_false_iff_ne]; intro h; rw [h] at h2; revert h2; decide
                    have e2 : ((s.extract k (k + 1 + 1)).toList == [60, 61]) = false := by
                      rw [hX, beq_eq_false_iff_ne]; intro h; rw [h] at h2; revert h2; decide
                    have e3 : ((s.extract k (k + 1 + 1)).toList == [62, 61]) = false := by
                      rw [hX, beq_eq_false_iff_ne]; intro h; rw [h] at h2; revert h2; decide
                    have hone : bs (s.extract k (k + 1)) = [s[k]] := by rw [extract_eq, HD.out, show k + 1 - k = 1 by omega]; rfl
                    cases h3 : Bags.ones.contains s[k] with
                    | false =>
                      have t4 := tst_f s[k] (n := 45) 45 rfl (by intro h; rw [h] at h3; revert h3; decide)
                      have e4 := ones_test s[k]
                      rw [h3] at e4
                      have HX := Lib.hid (HQ.out.no hlt (by rw [HD.out]; exact lx_no hsg h2 h3))
                      clear hX h2 h3 hsg hquo hlet hdig hrem hblank hone
                      generalize hM : spanTo (· != s[k]) onesB 0 = M at e4
                      have hs1 : ∀ W : World, W.cell? ⟨wr.heap.size, 0, none⟩ = some (.int .u8 s[k].toNat) → Calls Tryz.prog 45 #[.string ⟨#[40, 41, 44, 46, 42, 43, 45, 47, 37, 61, 60, 62]⟩, .int .i64 0, .func (.func 79) #[] #[.pointer (some ⟨wr.heap.size, 0, none⟩)]] W fun e w' => e = .returned (.int .i64 (M : Nat)) ∧ W = w' := by rw [← hM]; exact fun W hc => ones_span s[k] _ W hc
                      have HS1 := Lib.hid hs1
                      clear hs1
                      clear hM
                      by_cases hn : k + 1 < s.size
                      · go_wp2_with (first | (go_at_call 70; refine (HL.out _).mono ?_; rintro e w' ⟨rfl, rfl⟩) | (go_at_call 72; refine (HG.out _).mono ?_; rintro e w' ⟨rfl, rfl⟩) | (go_at_call 45; refine (HS1.out _ (by simp [go_sem])).mono ?_; rintro e w' ⟨rfl, rfl⟩) | (go_at_call 65; refine (fault_any _ _ _).mono ?_; rintro e w' ⟨rfl, rfl⟩))
                        exact ⟨rfl, post_no HX.out ((HB.out.alloc hbs _).alloc (by first | omega | (simp; omega)) _) (by first | omega | (simp; omega)) (Blk.made' (by simp) _ _)⟩
                      · go_wp2_with (first | (go_at_call 70; refine (HL.out _).mono ?_; rintro e w' ⟨rfl, rfl⟩) | (go_at_call 72; refine (HG.out _).mono ?_; rintro e w' ⟨rfl, rfl⟩) | (go_at_call 45; refine (HS1.out _ (by simp [go_sem])).mono ?_; rintro e w' ⟨rfl, rfl⟩) | (go_at_call 65; refine (fault_any _ _ _).mono ?_; rintro e w' ⟨rfl, rfl⟩))
                        exact ⟨rfl, post_no HX.out ((HB.out.alloc hbs _).alloc (by first | omega | (simp; omega)) _) (by first | omega | (simp; omega)) (Blk.made' (by simp) _ _)⟩
                    | true =>
                      have e4 := ones_test s[k]
                      rw [h3] at e4
                      have hx := lx_one hsg h2 h3
                      rw [← hone, ← HD.out] at hx
                      have HX := Lib.hid (show Seen s (k + 1) (acc ++ [⟨5, bs (s.extract k (k + 1)), 0⟩]) from HQ.out.step hlt hx)
                      clear hX h2 h3 hsg hquo hlet hdig hblank hone hx
                      generalize hM : spanTo (· != s[k]) onesB 0 = M at e4
                      have hs1 : ∀ W : World, W.cell? ⟨wr.heap.size, 0, none⟩ = some (.int .u8 s[k].toNat) → Calls Tryz.prog 45 #[.string ⟨#[40, 41, 44, 46, 42, 43, 45, 47, 37, 61, 60, 62]⟩, .int .i64 0, .func (.func 79) #[] #[.pointer (some ⟨wr.heap.size, 0, none⟩)]] W fun e w' => e = .returned (.int .i64 (M : Nat)) ∧ W = w' := by rw [← hM]; exact fun W hc => ones_span s[k] _ W hc
                      have HS1 := Lib.hid hs1
                      clear hs1
                      clear hM
                      by_cases hn : k + 1 < s.size
                      · by_cases h45 : s[k] = 45
                        · have t4 := tst_t s[k] (n := 45) 45 rfl h45
                          have t5 := tst_f s[k+1] (n := 45) 45 rfl (fun h => hrem ⟨h45, by rw [drop_cons s (k + 1) hn, h]; rfl⟩)
                          clear hrem h45
                          go_wp2_with (first | (go_at_call 70; refine (HL.out _).mono ?_; rintro e w' ⟨rfl, rfl⟩) | (go_at_call 72; refine (HG.out _).mono ?_; rintro e w' ⟨rfl, rfl⟩) | (go_at_call 45; refine (HS1.out _ (by simp [go_sem])).mono ?_; rintro e w' ⟨rfl, rfl⟩) | (at_builtin; refine wpList_append_one rfl _ _ rfl (base := w.heap.size) elem_words rfl (hown.alloc _) (cs := #[.int .i64 5, .string (s.extract k (k + 1)), .int .i64 0]) rfl (by simp) rfl (by simp [Value.oneCell']) (by unfold maxLen; omega) (by omega) (by simp; omega) ?_; intro b' w1 hown1 hb1 _ hz1))
                          go_roundw
                          case rel => exact ⟨k + 1, acc ++ [⟨5, bs (s.extract k (k + 1)), 0⟩], by omega, by go_num, HX.out, by simpa [wordCells] using hown1, by first | omega | (simp; omega), (HB.out.alloc hbs _).trans hb1⟩
                          case measure => simp [intOf]; omega
                        · have t4 := tst_f s[k] (n := 45) 45 rfl h45
                          clear hrem h45
                          go_wp2_with (first | (go_at_call 70; refine (HL.out _).mono ?_; rintro e w' ⟨rfl, rfl⟩) | (go_at_call 72; refine (HG.out _).mono ?_; rintro e w' ⟨rfl, rfl⟩) | (go_at_call 45; refine (HS1.out _ (by simp [go_sem])).mono ?_; rintro e w' ⟨rfl, rfl⟩) | (at_builtin; refine wpList_append_one rfl _ _ rfl (base := w.heap.size) elem_words rfl (hown.alloc _) (cs := #[.int .i64 5, .string (s.extract k (k + 1)), .int .i64 0]) rfl (by simp) rfl (by simp [Value.oneCell']) (by unfold maxLen; omega) (by omega) (by simp; omega) ?_; intro b' w1 hown1 hb1 _ hz1))
                          go_roundw
                          case rel => exact ⟨k + 1, acc ++ [⟨5, bs (s.extract k (k + 1)), 0⟩], by omega, by go_num, HX.out, by simpa [wordCells] using hown1, by first | omega | (simp; omega), (HB.out.alloc hbs _).trans hb1⟩
                          case measure => simp [intOf]; omega
                      · by_cases h45 : s[k] = 45
                        · have t4 := tst_t s[k] (n := 45) 45 rfl h45
                          clear hrem h45
                          go_wp2_with (first | (go_at_call 70; refine (HL.out _).mono ?_; rintro e w' ⟨rfl, rfl⟩) | (go_at_call 72; refine (HG.out _).mono ?_; rintro e w' ⟨rfl, rfl⟩) | (go_at_call 45; refine (HS1.out _ (by simp [go_sem])).mono ?_; rintro e w' ⟨rfl, rfl⟩) | (at_builtin; refine wpList_append_one rfl _ _ rfl (base := w.heap.size) elem_words rfl (hown.alloc _) (cs := #[.int .i64 5, .string (s.extract k (k + 1)), .int .i64 0]) rfl (by simp) rfl (by simp [Value.oneCell']) (by unfold maxLen; omega) (by omega) (by simp; omega) ?_; intro b' w1 hown1 hb1 _ hz1))
                          go_roundw
                          case rel => exact ⟨k + 1, acc ++ [⟨5, bs (s.extract k (k + 1)), 0⟩], by omega, by go_num, HX.out, by simpa [wordCells] using hown1, by first | omega | (simp; omega), (HB.out.alloc hbs _).trans hb1⟩
                          case measure => simp [intOf]; omega
                        · have t4 := tst_f s[k] (n := 45) 45 rfl h45
                          clear hrem h45
                          go_wp2_with (first | (go_at_call 70; refine (HL.out _).mono ?_; rintro e w' ⟨rfl, rfl⟩) | (go_at_call 72; refine (HG.out _).mono ?_; rintro e w' ⟨rfl, rfl⟩) | (go_at_call 45; refine (HS1.out _ (by simp [go_sem])).mono ?_; rintro e w' ⟨rfl, rfl⟩) | (at_builtin; refine wpList_append_one rfl _ _ rfl (base := w.heap.size) elem_words rfl (hown.alloc _) (cs := #[.int .i64 5, .string (s.extract k (k + 1)), .int .i64 0]) rfl (by simp) rfl (by simp [Value.oneCell']) (by unfold maxLen; omega) (by omega) (by simp; omega) ?_; intro b' w1 hown1 hb1 _ hz1))
                          go_roundw
                          case rel => exact ⟨k + 1, acc ++ [⟨5, bs (s.extract k (k + 1)), 0⟩], by omega, by go_num, HX.out, by simpa [wordCells] using hown1, by first | omega | (simp; omega), (HB.out.alloc hbs _).trans hb1⟩
                          case measure => simp [intOf]; omega
      · have HN := Lib.hid (HQ.out.stop hlt)
        go_wp2_with (at_builtin; refine wpList_append_one rfl _ _ rfl (base := w.heap.size) elem_words rfl (hown) (cs := #[.int .i64 0, .string (tx []), .int .i64 0]) rfl (by simp) rfl (by simp [Value.oneCell']) (by unfold maxLen; omega) (by omega) (hbs) ?_; intro b' w1 hown1 hb1 _ hz1)
        go_ret
        exact ⟨HB.out.trans hb1, by rw [HN.out]; exact ⟨_, rfl, by simpa [wordCells, Bags.endW] using hown1⟩⟩
end Go.Proofs.YtoephflcjllaaaaGreatDoor
