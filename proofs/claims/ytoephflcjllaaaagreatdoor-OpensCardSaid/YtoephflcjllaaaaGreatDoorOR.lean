/- Walk of the reference: pieces. -/
import Derived.Test.YtoephflcjllaaaaGreatDoorOQ
namespace Go.Proofs.YtoephflcjllaaaaGreatDoor
open Go.RowKit
theorem extract_rest (s : ByteArray) (k : Nat) : bs (s.extract k s.size) = (bs s).drop k := by
  rw [extract_eq, List.take_of_length_le (by rw [List.length_drop, bs_length]; omega)]
theorem size_rest (s : ByteArray) (k : Nat) : (s.extract k s.size).size = s.size - k := by rw [← bs_length, extract_rest, List.length_drop, bs_length]

set_option maxRecDepth 100000 in
set_option maxHeartbeats 2000000 in
theorem pieces_ref (s : ByteArray) (w : World) (hs : s.size ≤ 4000) :
    Calls Tryz.prog 14 #[.string s] w (PiecesPost s w) := by
  go_enter Tryz.func14, Tryz.ntmps14
  go_wp2_with fail
  go_loopw [4, 5] (fun o v wr => ∃ k acc, k ≤ s.size ∧ v = .int .i64 (k : Nat) ∧ PSeen s k acc ∧ wr.ownsRow w.heap.size 9 1 o acc.length (acc.map strV) ∧ acc.length ≤ k ∧ Below w.heap.size w wr) (fun _ v _ => s.size - (intOf v).toNat)
  case atStart => exact ⟨0, [], by omega, rfl, PSeen.start s, ⟨by simp, .inl ⟨rfl, rfl⟩⟩, by simp, Below.refl _ _⟩
  case round =>
    rename_i wr
    obtain ⟨k, acc, hk, rfl, hq, hown, hacc, hbl⟩ := hrel
    have HQ := Lib.hid hq
    have HB := Lib.hid hbl
    have hbs := hbl.size
    clear hq hbl
    by_cases hlt : k < s.size
    · have hlt' : (k : Int) < (s.size : Int) := by omega
      by_cases h32 : s[k] = 32
      · have t1 := tst_t s[k] (n := 32) 32 rfl h32
        have HX := Lib.hid (HQ.out.step hlt (po_blank hlt h32))
        clear h32
        go_wp2_with fail
        exact ⟨⟨k + 1, acc, by omega, by simp, by simpa using HX.out, hown, by omega, HB.out⟩, by simp [intOf]; omega⟩
      · have t1 := tst_f s[k] (n := 32) 32 rfl h32
        by_cases h39 : s[k] = 39
        · have t2 := tst_t s[k] (n := 39) 39 rfl h39
          have HQD := Lib.hid (fun W => quoted_ref (s.extract k s.size) W (by rw [size_rest]; omega) (by rw [size_rest]; omega))
          have hrest : (bs (s.extract k s.size)).drop 1 = (bs s).drop (k + 1) := by rw [extract_rest, List.drop_drop]
          cases hqu : Bags.quo ((bs s).drop (k + 1)) with
          | none =>
            have HN := Lib.hid (HQ.out.no hlt (po_zero hlt h32 (pl_quo_none hlt h39 hqu)))
            have hr : quoRef (s.extract k s.size) = .tuple #[.string (tx []), .int .i64 0] := by unfold quoRef; rw [hrest, hqu]; rfl
            rw [hr] at HQD
            clear h32 h39 hqu hr hrest
            go_wp2_with fail
            refine (HQD.out _).mono ?_
            rintro e w' ⟨rfl, rfl⟩
            go_wp2_with fail
            go_ret2
            exact ⟨HB.out, .inl ⟨HN.out, _, rfl⟩⟩
          | some p =>
            obtain ⟨t, n⟩ := p
            obtain ⟨hn1, hn2⟩ := quo_fit hlt hqu
            have hr : quoRef (s.extract k s.size) = .tuple #[.string (tx t), .int .i64 (1 + n : Nat)] := by unfold quoRef; rw [hrest, hqu]
            have hpl := pl_quo hlt h39 hqu
            rw [hr] at HQD
            have hpl : Bags.pieceLen ((bs s).drop k) = 1 + n := by rw [hpl]; omega
            have hn2 : k + (1 + n) ≤ s.size := by omega
            have hnpos : 1 ≤ 1 + n := by omega
            generalize 1 + n = n at *
            clear hqu hr h39 hrest hn1
            have hn0' : ((n : Int) == 0) = false := by simp; omega
            by_cases hJl : k + n < s.size
            · have hJ' : (k : Int) + (n : Int) < (s.size : Int) := by omega
              by_cases hJ32 : s[k + n] = 32
              · have t3 : ((s[k + n].toNat : Int) != 32) = false := by rw [hJ32]; rfl
                have hx := HQ.out.step hlt (po_ok (J := k + n) hlt h32 (by rw [hpl]; omega) (by omega) hn2 (fun _ => hJ32))
                rw [show k + (k + n - k) = k + n by omega] at hx
                have HX := Lib.hid hx
                clear hJ32 h32 hx
                go_wp2_with fail
                refine (HQD.out _).mono ?_
                rintro e w' ⟨rfl, rfl⟩
                go_wp2_with (at_builtin; refine wpList_append_one rfl _ _ rfl (base := w.heap.size) elem_strs rfl hown (cs := #[.string (s.extract k (k + n))]) rfl rfl rfl (by simp [Value.oneCell']) (by unfold maxLen; omega) (by omega) hbs ?_; intro b' w1 hown1 hb1 _ hz1)
                exact ⟨⟨k + n, acc ++ [bs (s.extract k (k + n))], by omega, by simp, by simpa using HX.out, by simpa [strV] using hown1, by simp; omega, HB.out.trans hb1⟩, by simp [intOf]; omega⟩
              · have t3 : ((s[k + n].toNat : Int) != 32) = true := by rw [bne, tst_f s[k + n] (n := 32) 32 rfl hJ32]; rfl
                have HN := Lib.hid (HQ.out.no hlt (po_bad (J := k + n) hlt h32 (by rw [hpl]; omega) (by omega) hJl hJ32))
                clear hJ32 h32
                go_wp2_with fail
                refine (HQD.out _).mono ?_
                rintro e w' ⟨rfl, rfl⟩
                go_wp2_with fail
                go_ret2
                exact ⟨HB.out, .inl ⟨HN.out, _, rfl⟩⟩
            · have hJ' : ¬ (k : Int) + (n : Int) < (s.size : Int) := by omega
              have hx := HQ.out.step hlt (po_ok (J := k + n) hlt h32 (by rw [hpl]; omega) (by omega) hn2 (fun h => absurd h hJl))
              rw [show k + (k + n - k) = k + n by omega] at hx
              have HX := Lib.hid hx
              clear h32 hx
              go_wp2_with fail
              refine (HQD.out _).mono ?_
              rintro e w' ⟨rfl, rfl⟩
              go_wp2_with (at_builtin; refine wpList_append_one rfl _ _ rfl (base := w.heap.size) elem_strs rfl hown (cs := #[.string (s.extract k (k + n))]) rfl rfl rfl (by simp [Value.oneCell']) (by unfold maxLen; omega) (by omega) hbs ?_; intro b' w1 hown1 hb1 _ hz1)
              exact ⟨⟨k + n, acc ++ [bs (s.extract k (k + n))], by omega, by simp, by simpa using HX.out, by simpa [strV] using hown1, by simp; omega, HB.out.trans hb1⟩, by simp [intOf]; omega⟩
        · have t2 := tst_f s[k] (n := 39) 39 rfl h39
          have hpl0 := pl_span hlt h39
          have hnb : notB s[k] = true := by unfold notB; simp [h32, h39]
          obtain ⟨hkJ, hJ2, _, _⟩ := span_word (p := notB) hlt hnb
          have HSP := Lib.hid (rfl : spanTo notB s k = spanTo notB s k)
          clear hnb h39
          go_wp2_with fail
          go_loop [6] (fun v => ∃ j : Nat, v = .int .i64 j ∧ k + j ≤ s.size ∧ spanTo notB s (k + j) = spanTo notB s k) (fun v => s.size - (intOf v).toNat)
          case atStart => exact ⟨0, rfl, by omega, rfl⟩
          case round =>
            obtain ⟨j, rfl, hj, hsp⟩ := hrel
            have HSJ := Lib.hid hsp
            clear hsp
            by_cases hjl : k + j < s.size
            · have hjl' : (k : Int) + (j : Int) < (s.size : Int) := by omega
              by_cases g32 : s[k + j] = 32
              · have u1 : ((s[k + j].toNat : Int) != 32) = false := by rw [g32]; rfl
                have hn : spanTo notB s k = k + j := HSJ.out.symm.trans (spanTo_no (p := notB) hjl (by rw [g32]; decide))
                rw [hn] at hpl0 hkJ hJ2
                have hpl : Bags.pieceLen ((bs s).drop k) = k + j - k := by rw [hpl0]
                have hx := HQ.out.step hlt (po_ok (J := k + j) hlt h32 hpl (by omega) (by omega) (fun _ => g32))
                rw [show k + (k + j - k) = k + j by omega] at hx
                have HX := Lib.hid hx
                have hn0' : ((j : Int) == 0) = false := by simp; omega
                clear hn hpl0 hpl HSP g32 HSJ hx h32
                go_wp2_with (at_builtin; refine wpList_append_one rfl _ _ rfl (base := w.heap.size) elem_strs rfl hown (cs := #[.string (s.extract k (k + j))]) rfl rfl rfl (by simp [Value.oneCell']) (by unfold maxLen; omega) (by omega) hbs ?_; intro b' w1 hown1 hb1 _ hz1)
                exact ⟨⟨k + j, acc ++ [bs (s.extract k (k + j))], by omega, by simp, by simpa using HX.out, by simpa [strV] using hown1, by simp; omega, HB.out.trans hb1⟩, by simp [intOf]; omega⟩
              · by_cases g39 : s[k + j] = 39
                · have u1 : ((s[k + j].toNat : Int) != 32) = true := by rw [g39]; rfl
                  have u2 : ((s[k + j].toNat : Int) != 39) = false := by rw [g39]; rfl
                  have hn : spanTo notB s k = k + j := HSJ.out.symm.trans (spanTo_no (p := notB) hjl (by rw [g39]; decide))
                  rw [hn] at hpl0 hkJ hJ2
                  have hpl : Bags.pieceLen ((bs s).drop k) = k + j - k := by rw [hpl0]
                  have HN := Lib.hid (HQ.out.no hlt (po_bad (J := k + j) hlt h32 hpl (by omega) hjl g32))
                  have hn0' : ((j : Int) == 0) = false := by simp; omega
                  clear hn hpl0 hpl HSP g39 g32 HSJ h32
                  go_wp2_with fail
                  go_ret2
                  exact ⟨HB.out, .inl ⟨HN.out, _, rfl⟩⟩
                · have u1 : ((s[k + j].toNat : Int) != 32) = true := by rw [bne, tst_f s[k + j] (n := 32) 32 rfl g32]; rfl
                  have u2 : ((s[k + j].toNat : Int) != 39) = true := by rw [bne, tst_f s[k + j] (n := 39) 39 rfl g39]; rfl
                  have HSJ2 := Lib.hid ((spanTo_yes (p := notB) hjl (by unfold notB; simp [g32, g39])).symm.trans HSJ.out)
                  clear g32 g39 HSJ
                  go_wp2_with fail
                  exact ⟨⟨j + 1, by simp, by omega, HSJ2.out⟩, by simp [intOf]; omega⟩
            · have hjl' : ¬ (k : Int) + (j : Int) < (s.size : Int) := by omega
              have hn : spanTo notB s k = k + j := HSJ.out.symm.trans (spanTo_stop hjl)
              rw [hn] at hpl0 hkJ hJ2
              have hpl : Bags.pieceLen ((bs s).drop k) = k + j - k := by rw [hpl0]
              have hx := HQ.out.step hlt (po_ok (J := k + j) hlt h32 hpl (by omega) (by omega) (fun h => absurd h hjl))
              rw [show k + (k + j - k) = k + j by omega] at hx
              have HX := Lib.hid hx
              have hn0' : ((j : Int) == 0) = false := by simp; omega
              clear hn hpl0 hpl HSP HSJ hx h32
              go_wp2_with (at_builtin; refine wpList_append_one rfl _ _ rfl (base := w.heap.size) elem_strs rfl hown (cs := #[.string (s.extract k (k + j))]) rfl rfl rfl (by simp [Value.oneCell']) (by unfold maxLen; omega) (by omega) hbs ?_; intro b' w1 hown1 hb1 _ hz1)
              exact ⟨⟨k + j, acc ++ [bs (s.extract k (k + j))], by omega, by simp, by simpa using HX.out, by simpa [strV] using hown1, by simp; omega, HB.out.trans hb1⟩, by simp [intOf]; omega⟩
    · have hlt' : ¬ (k : Int) < (s.size : Int) := by omega
      have HN := Lib.hid (HQ.out.stop hlt)
      go_wp2_with fail
      go_ret2
      exact ⟨HB.out, .inr ⟨acc, _, HN.out, rfl, hown⟩⟩
end Go.Proofs.YtoephflcjllaaaaGreatDoor
