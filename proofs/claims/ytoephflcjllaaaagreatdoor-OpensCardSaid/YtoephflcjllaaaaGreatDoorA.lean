/- Walks: letters, digits, spans, quoted texts. -/
import Derived.Test.YtoephflcjllaaaaGreatDoorK
import Derived.Test.YtoephflcjllaaaaGreatDoorLex
namespace Go.Proofs.YtoephflcjllaaaaGreatDoor
open Go.RowKit

theorem u8_eq (c : UInt8) (n : Nat) (h : n < 256) : (c == UInt8.ofNat n) = decide ((c.toNat : Int) = n) := by
  rw [Bool.eq_iff_iff]
  simp only [beq_iff_eq, decide_eq_true_eq]
  constructor
  · intro e; rw [e]; simp; omega
  · intro e; apply UInt8.toNat_inj.1; simp; omega
theorem letter_eq (c : UInt8) : Bags.letter c = decide ((c.toNat : Int) = 95 ∨ (97 ≤ (c.toNat : Int) ∧ (c.toNat : Int) ≤ 122) ∨ (65 ≤ (c.toNat : Int) ∧ (c.toNat : Int) ≤ 90)) := by
  unfold Bags.letter
  rw [show (95 : UInt8) = UInt8.ofNat 95 from rfl, u8_eq c 95 (by decide), Bool.eq_iff_iff]
  simp [UInt8.le_iff_toNat_le]
  omega
theorem digit_eq (c : UInt8) : Bags.digit c = decide (48 ≤ (c.toNat : Int) ∧ (c.toNat : Int) ≤ 57) := by
  unfold Bags.digit
  rw [Bool.eq_iff_iff]
  simp [UInt8.le_iff_toNat_le]
  omega

set_option maxHeartbeats 400000 in
theorem letter_any (c : UInt8) (w : World) :
    Calls Tryz.prog 70 #[.int .u8 c.toNat] w fun e w' => e = .returned (.bool (Bags.letter c)) ∧ w = w' := by
  rw [letter_eq]
  generalize (c.toNat : Int) = n
  go_enter Tryz.func70, Tryz.ntmps70
  go_wp2
  all_goals
    go_ret
    exact ⟨ret_bool (by first | rfl | (rw [Bool.eq_iff_iff]; simp; omega)), rfl⟩

set_option maxHeartbeats 400000 in
theorem digit_any (c : UInt8) (w : World) :
    Calls Tryz.prog 72 #[.int .u8 c.toNat] w fun e w' => e = .returned (.bool (Bags.digit c)) ∧ w = w' := by
  rw [digit_eq]
  generalize (c.toNat : Int) = n
  go_enter Tryz.func72, Tryz.ntmps72
  go_wp2
  all_goals
    go_ret
    exact ⟨ret_bool (by first | rfl | (rw [Bool.eq_iff_iff]; simp; omega)), rfl⟩

set_option maxHeartbeats 400000 in
theorem alnum_any_isName (c : UInt8) (w : World) :
    Calls Tryz.prog 71 #[.int .u8 c.toNat] w fun e w' => e = .returned (.bool (Bags.alnum c)) ∧ w = w' := by
  unfold Bags.alnum
  cases hl : Bags.letter c <;>
  · have hL := letter_any c
    have hD := digit_any c
    rw [hl] at hL
    have HL := Lib.hid hL
    have HD := Lib.hid hD
    clear hL hD hl
    go_enter Tryz.func71, Tryz.ntmps71
    go_wp2_with (first | (go_at_call 70; refine (HL.out _).mono ?_; rintro e w' ⟨rfl, rfl⟩) | (go_at_call 72; refine (HD.out _).mono ?_; rintro e w' ⟨rfl, rfl⟩))
    go_ret
    exact ⟨by simp, rfl⟩

set_option maxHeartbeats 400000 in
theorem alnum_any_words (c : UInt8) (w : World) :
    Calls Tryz.prog 78 #[.int .u8 c.toNat] w fun e w' => e = .returned (.bool (Bags.alnum c)) ∧ w = w' := by
  unfold Bags.alnum
  cases hl : Bags.letter c <;>
  · have hL := letter_any c
    have hD := digit_any c
    rw [hl] at hL
    have HL := Lib.hid hL
    have HD := Lib.hid hD
    clear hL hD hl
    go_enter Tryz.func78, Tryz.ntmps78
    go_wp2_with (first | (go_at_call 70; refine (HL.out _).mono ?_; rintro e w' ⟨rfl, rfl⟩) | (go_at_call 72; refine (HD.out _).mono ?_; rintro e w' ⟨rfl, rfl⟩))
    go_ret
    exact ⟨by simp, rfl⟩

theorem u8_ne (c : UInt8) (n : Nat) (h : n < 256) : (c != UInt8.ofNat n) = ((c.toNat : Int) != n) := by
  have := u8_eq c n h
  rw [bne, this, Bool.eq_iff_iff]
  simp [bne_iff_ne]

set_option maxHeartbeats 400000 in
theorem noline_any (c : UInt8) (w : World) :
    Calls Tryz.prog 77 #[.int .u8 c.toNat] w fun e w' => e = .returned (.bool (c != 10)) ∧ w = w' := by
  rw [show (10 : UInt8) = UInt8.ofNat 10 from rfl, u8_ne c 10 (by decide)]
  generalize (c.toNat : Int) = n
  go_enter Tryz.func77, Tryz.ntmps77
  go_wp2
  go_ret
  exact ⟨rfl, rfl⟩

set_option maxHeartbeats 400000 in
theorem other_any (c d : UInt8) (p : Addr) (w : World) (hc : w.cell? p = some (.int .u8 c.toNat)) :
    Calls Tryz.prog 79 #[.int .u8 d.toNat, .pointer (some p)] w fun e w' => e = .returned (.bool (d != c)) ∧ w = w' := by
  have e : (d != c) = ((d.toNat : Int) != c.toNat) := by rw [bne_eq, Bool.eq_iff_iff]; simp [UInt8.toNat_inj.symm]; omega
  rw [e]
  clear e
  go_enter Tryz.func79, Tryz.ntmps79
  go_wp2
  go_ret
  exact ⟨rfl, rfl⟩

set_option maxHeartbeats 400000 in
theorem pieceByte_any (c : UInt8) (w : World) :
    Calls Tryz.prog 46 #[.int .u8 c.toNat] w fun e w' => e = .returned (.bool (c != 32 && c != 39)) ∧ w = w' := by
  rw [show (32 : UInt8) = UInt8.ofNat 32 from rfl, show (39 : UInt8) = UInt8.ofNat 39 from rfl, u8_ne c 32 (by decide), u8_ne c 39 (by decide)]
  generalize (c.toNat : Int) = n
  go_enter Tryz.func46, Tryz.ntmps46
  go_wp2
  all_goals
    go_ret
    exact ⟨ret_bool (by first | rfl | (rw [Bool.eq_iff_iff]; simp; omega)), rfl⟩

/-- span: as far as the bytes are of that kind. -/
def spanTo (p : UInt8 → Bool) (s : ByteArray) (i : Nat) : Nat := i + (((bs s).drop i).takeWhile p).length
theorem spanTo_stop {p : UInt8 → Bool} {s : ByteArray} {i : Nat} (h : ¬ i < s.size) : spanTo p s i = i := by
  unfold spanTo
  rw [List.drop_of_length_le (by rw [bs_length]; omega)]; simp
theorem spanTo_no {p : UInt8 → Bool} {s : ByteArray} {i : Nat} (h : i < s.size) (hp : p s[i] = false) : spanTo p s i = i := by
  unfold spanTo; rw [drop_cons s i h]; simp [hp]
theorem spanTo_yes {p : UInt8 → Bool} {s : ByteArray} {i : Nat} (h : i < s.size) (hp : p s[i] = true) : spanTo p s i = spanTo p s (i + 1) := by
  unfold spanTo; rw [drop_cons s i h]; simp [hp]; omega

set_option maxHeartbeats 400000 in
theorem span_any (F : FuncId) (caps : Array Value) (p : UInt8 → Bool) (s : ByteArray) (i : Nat) (w : World) (hs : s.size ≤ maxLen) (hi : i ≤ s.size)
    (hcall : ∀ (args : Array Value) (w : World), (callFunc F args).run Tryz.prog w = .ok (.enter F args) w)
    (hp : ∀ c : UInt8, Calls Tryz.prog F (#[.int .u8 c.toNat] ++ caps) w fun e w' => e = .returned (.bool (p c)) ∧ w = w') :
    Calls Tryz.prog 45 #[.string s, .int .i64 i, .func (.func F) #[] caps] w fun e w' => e = .returned (.int .i64 (spanTo p s i)) ∧ w = w' := by
  unfold maxLen at hs
  have HP := Lib.hid hp
  clear hp
  go_enter Tryz.func45, Tryz.ntmps45
  go_wp2_with fail
  go_loop [1] (fun v => ∃ k : Nat, k ≤ s.size ∧ spanTo p s k = spanTo p s i ∧ v = .int .i64 k) (fun v => s.size - (intOf v).toNat)
  case atStart => exact ⟨i, hi, rfl, rfl⟩
  case round =>
    obtain ⟨k, hk, he, rfl⟩ := hrel
    have HE := Lib.hid he
    clear he
    by_cases hlt : k < s.size
    · cases hb : p s[k]
      · have HF := Lib.hid (HE.out.symm.trans (spanTo_no hlt hb))
        have hpk := HP.out s[k]
        rw [hb] at hpk
        have HK := Lib.hid hpk
        clear hpk hb
        go_wp2_with fail
        refine HK.out.mono ?_
        rintro e w' ⟨rfl, rfl⟩
        go_wp2_with fail
        go_ret
        exact ⟨ret_int (by rw [HF.out]), rfl⟩
      · have HF := Lib.hid (show spanTo p s (k + 1) = spanTo p s i from (spanTo_yes hlt hb).symm.trans HE.out)
        have hpk := HP.out s[k]
        rw [hb] at hpk
        have HK := Lib.hid hpk
        clear hpk hb
        go_wp2_with fail
        refine HK.out.mono ?_
        rintro e w' ⟨rfl, rfl⟩
        go_wp2_with fail
        go_round
        case rel => exact ⟨k + 1, by omega, HF.out, by go_num⟩
        case measure => simp [intOf]; omega
    · go_wp2_with fail
      go_ret
      exact ⟨ret_int (by rw [← HE.out, spanTo_stop hlt]), rfl⟩
end Go.Proofs.YtoephflcjllaaaaGreatDoor
