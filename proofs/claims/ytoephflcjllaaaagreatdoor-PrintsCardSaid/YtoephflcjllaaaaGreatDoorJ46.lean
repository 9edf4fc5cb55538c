/- The reference's printer: not, as, quote, decimal. -/
import Derived.Test.YtoephflcjllaaaaGreatDoorJ09
import Derived.Test.YtoephflcjllaaaaGreatDoorJ24
import Derived.Test.YtoephflcjllaaaaGreatDoorJ01
import Derived.Test.YtoephflcjllaaaaGreatDoorJ32
namespace Bags
theorem dec_small {n : Nat} (h : n < 10) : dec n = [UInt8.ofNat (48 + n)] := by rw [dec, dif_pos h]
theorem dec_big {n : Nat} (h : ¬ n < 10) : dec n = dec (n / 10) ++ [UInt8.ofNat (48 + n % 10)] := by rw [dec, dif_neg h]
theorem dec_min : dec 9223372036854775808 = [57, 50, 50, 51, 51, 55, 50, 48, 51, 54, 56, 53, 52, 55, 55, 53, 56, 48, 56] := by
  repeat rw [dec_big (by decide)]
  rw [dec_small (by decide)]
  rfl
end Bags
namespace Go.Proofs.YtoephflcjllaaaaGreatDoor
open Go.RowKit

set_option maxRecDepth 100000 in
theorem not_ref (b : Bool) (w : World) : Calls Tryz.prog 22 #[.bool b] w fun e w' => e = .returned (.string (tx (wd b))) ∧ w = w' := by
  cases b
  · go_enter Tryz.func22, Tryz.ntmps22
    go_wp2_with fail
    go_ret
    exact ⟨rfl, rfl⟩
  · go_enter Tryz.func22, Tryz.ntmps22
    go_wp2_with fail
    go_ret
    exact ⟨rfl, rfl⟩

set_option maxRecDepth 100000 in
set_option maxHeartbeats 1000000 in
theorem as_ref (s a : Bags.Str) (w : World) (hl : s.length + a.length ≤ 1099511627776) :
    Calls Tryz.prog 25 #[.string (tx s), .string (tx a)] w fun e w' => e = .returned (.string (tx (Bags.named s a))) ∧ w = w' := by
  by_cases ha : a = []
  · have t1 : (tx a).toList.isEmpty = true := by rw [ha]; simp [tx, ByteArray.toList_eq]
    have HA := Lib.hid ha
    clear ha
    go_enter Tryz.func25, Tryz.ntmps25
    go_wp2_with fail
    go_ret
    exact ⟨by simp [Bags.named, HA.out], rfl⟩
  · have t1 : (tx a).toList.isEmpty = false := by
      cases a with
      | nil => exact absurd rfl ha
      | cons a l => simp [tx, ByteArray.toList_eq]
    have HA := Lib.hid ha
    clear ha
    obtain ⟨A1, a1, e1⟩ := cat (Lib.hid (rfl : tx s = tx s)) (Lib.hid (rfl : ⟨#[32, 97, 115, 32]⟩ = tx [32, 97, 115, 32])) (by simp; omega)
    obtain ⟨A2, a2, e2⟩ := cat a1 (Lib.hid (rfl : tx a = tx a)) (by simp; omega)
    go_enter Tryz.func25, Tryz.ntmps25
    go_wp2_with fail
    go_ret
    exact ⟨congrArg (fun x => Ending.returned (.string x)) (by rw [a2.out, Bags.named, if_neg HA.out]; rfl), rfl⟩

theorem quo_next {s : ByteArray} {k : Nat} (h : k < s.size) : ((bs s).take (k + 1)).flatMap Bags.quo1 = ((bs s).take k).flatMap Bags.quo1 ++ Bags.quo1 s[k] := by
  have h' : k < (bs s).length := by rw [bs_length]; exact h
  rw [List.take_succ_eq_append_getElem h', List.flatMap_append]
  simp
  rfl
theorem quo_len2 (s : ByteArray) (k : Nat) : (((bs s).take k).flatMap Bags.quo1).length ≤ 2 * s.size := by
  have : ∀ l : List UInt8, (l.flatMap Bags.quo1).length ≤ 2 * l.length := by
    intro l
    induction l with
    | nil => simp
    | cons a l ih =>
      have h : (Bags.quo1 a).length ≤ 2 := by unfold Bags.quo1; split <;> simp
      rw [List.flatMap_cons, List.length_append, List.length_cons]; omega
  have h1 := this ((bs s).take k)
  have h2 : ((bs s).take k).length ≤ s.size := by rw [List.length_take, bs_length]; omega
  omega

set_option maxRecDepth 100000 in
set_option maxHeartbeats 1000000 in
theorem quote_ref (s : ByteArray) (w : World) (hs : s.size ≤ 1099511627776) :
    Calls Tryz.prog 24 #[.string s] w fun e w' => e = .returned (.string (tx (Bags.quote (bs s)))) ∧ w = w' := by
  go_enter Tryz.func24, Tryz.ntmps24
  go_wp2_with fail
  go_loop [3, 4] (fun b v => ∃ k : Nat, k ≤ s.size ∧ v = .int .i64 k ∧ b = .string (tx (39 :: ((bs s).take k).flatMap Bags.quo1))) (fun _ v => s.size - (intOf v).toNat)
  case atStart => exact ⟨0, by omega, rfl, rfl⟩
  case round =>
    obtain ⟨k, hk, rfl, rfl⟩ := hrel
    have hL := quo_len2 s k
    by_cases hlt : k < s.size
    · have hlt' : (k : Int) < (s.size : Int) := by omega
      have hex := extract_tx hlt
      have hN := Lib.hid (quo_next hlt)
      obtain ⟨B1, b1, f1⟩ := cat (Lib.hid (rfl : tx (39 :: ((bs s).take k).flatMap Bags.quo1) = tx (39 :: ((bs s).take k).flatMap Bags.quo1))) (Lib.hid (rfl : ⟨#[39]⟩ = tx [39])) (by simp at hL ⊢; omega)
      obtain ⟨B2, b2, f2⟩ := cat b1 (Lib.hid (rfl : tx [s[k]] = tx [s[k]])) (by simp at hL ⊢; omega)
      obtain ⟨C2, c2, g2⟩ := cat (Lib.hid (rfl : tx (39 :: ((bs s).take k).flatMap Bags.quo1) = tx (39 :: ((bs s).take k).flatMap Bags.quo1))) (Lib.hid (rfl : tx [s[k]] = tx [s[k]])) (by simp at hL ⊢; omega)
      clear hL
      by_cases h39 : s[k] = 39
      · have t1 : ((s[k].toNat : Int) == 39) = true := by rw [h39]; rfl
        have HR := Lib.hid (show Value.string B2 = .string (tx (39 :: ((bs s).take (k + 1)).flatMap Bags.quo1)) by rw [b2.out, hN.out, h39]; simp [Bags.quo1])
        clear h39
        go_wp2_with fail
        go_round
        case rel => exact ⟨k + 1, by omega, by go_num, HR.out⟩
        case measure => simp [intOf]; omega
      · have t1 : ((s[k].toNat : Int) == 39) = false := by
          have := @u8_int s[k] 39
          rw [show ((39 : UInt8).toNat : Int) = 39 from rfl] at this
          rw [this]; simpa using h39
        have HR := Lib.hid (show Value.string C2 = .string (tx (39 :: ((bs s).take (k + 1)).flatMap Bags.quo1)) by rw [c2.out, hN.out]; simp [Bags.quo1, h39])
        clear h39
        go_wp2_with fail
        go_round
        case rel => exact ⟨k + 1, by omega, by go_num, HR.out⟩
        case measure => simp [intOf]; omega
    · obtain rfl : k = s.size := by omega
      obtain ⟨B1, b1, f1⟩ := cat (Lib.hid (rfl : tx (39 :: ((bs s).take s.size).flatMap Bags.quo1) = tx (39 :: ((bs s).take s.size).flatMap Bags.quo1))) (Lib.hid (rfl : ⟨#[39]⟩ = tx [39])) (by simp at hL ⊢; omega)
      have HR := Lib.hid (show Ending.returned (Value.string B1) = .returned (.string (tx (Bags.quote (bs s)))) by rw [b1.out, show (bs s).take s.size = bs s by rw [← bs_length]; exact List.take_length]; rfl)
      clear hL
      go_wp2_with fail
      go_ret
      exact ⟨HR.out, rfl⟩

theorem digit_at {d : Nat} (h : d < 10) : (⟨#[48, 49, 50, 51, 52, 53, 54, 55, 56, 57]⟩ : ByteArray).extract d (d + 1) = tx [UInt8.ofNat (48 + d)] := by
  have : d = 0 ∨ d = 1 ∨ d = 2 ∨ d = 3 ∨ d = 4 ∨ d = 5 ∨ d = 6 ∨ d = 7 ∨ d = 8 ∨ d = 9 := by omega
  rcases this with rfl | rfl | rfl | rfl | rfl | rfl | rfl | rfl | rfl | rfl <;> rfl

set_option maxRecDepth 100000 in
set_option maxHeartbeats 1000000 in
theorem decimal_nat : ∀ (n : Nat) (w : World), n ≤ 9223372036854775807 →
    Calls Tryz.prog 23 #[.int .i64 n] w fun e w' => e = .returned (.string (tx (Bags.dec n))) ∧ w = w' := by
  intro n
  induction n using Nat.strongRecOn with
  | ind n ih =>
    intro w hn
    have h0 : ¬ (n : Int) < 0 := by omega
    by_cases h : n < 10
    · have h' : (n : Int) < 10 := by omega
      obtain ⟨c, hc⟩ : ∃ c, Hid (c = [UInt8.ofNat (48 + n)]) := ⟨_, Lib.hid rfl⟩
      have hd := digit_at h
      have HR := Lib.hid (Bags.dec_small h)
      rw [← hc.out] at hd
      clear ih
      go_enter Tryz.func23, Tryz.ntmps23
      go_wp2_with fail
      go_ret
      exact ⟨by rw [HR.out, ← hc.out]; rfl, rfl⟩
    · have h' : ¬ (n : Int) < 10 := by omega
      obtain ⟨c, hc⟩ : ∃ c, Hid (c = [UInt8.ofNat (48 + n % 10)]) := ⟨_, Lib.hid rfl⟩
      have hd := digit_at (show n % 10 < 10 by omega)
      rw [← hc.out] at hd
      have HI := Lib.hid (show Calls Tryz.prog 23 #[.int .i64 ((n : Int) / 10)] w fun e w' => e = .returned (.string (tx (Bags.dec (n / 10)))) ∧ w = w' from ih (n / 10) (by omega) w (by omega))
      have HR := Lib.hid (Bags.dec_big h)
      have hL : (Bags.dec (n / 10)).length ≤ 60 := by
        have := Bags.dec_len 29 (n / 10) (by have : (10 : Nat) ^ (29 + 1) = 1000000000000000000000000000000 := by decide
                                             omega)
        omega
      have hcl : c.length = 1 := by rw [hc.out]; rfl
      obtain ⟨A1, a1, e1⟩ := cat (Lib.hid (rfl : tx (Bags.dec (n / 10)) = tx (Bags.dec (n / 10)))) (Lib.hid (rfl : tx c = tx c)) (by omega)
      have HA := Lib.hid (show Ending.returned (Value.string A1) = .returned (.string (tx (Bags.dec n))) by rw [a1.out, HR.out, hc.out])
      clear ih hL hcl
      go_enter Tryz.func23, Tryz.ntmps23
      go_wp2_with fail
      refine HI.out.mono ?_
      rintro e w2 ⟨rfl, rfl⟩
      go_wp2_with fail
      go_ret
      exact ⟨HA.out, rfl⟩

set_option maxRecDepth 100000 in
set_option maxHeartbeats 1000000 in
theorem decimal_ref (n : Int) (h0 : -9223372036854775808 ≤ n) (h1 : n ≤ 9223372036854775807) (w : World) :
    Calls Tryz.prog 23 #[.int .i64 n] w fun e w' => e = .returned (.string (tx (Bags.decInt n))) ∧ w = w' := by
  by_cases h : n < 0
  · by_cases hm : n = -9223372036854775808
    · subst hm
      have HR := Lib.hid (show tx (Bags.decInt (-9223372036854775808)) = ⟨#[45, 57, 50, 50, 51, 51, 55, 50, 48, 51, 54, 56, 53, 52, 55, 55, 53, 56, 48, 56]⟩ by
        rw [Bags.decInt, if_pos (by decide), show (-9223372036854775808 : Int).natAbs = 9223372036854775808 from rfl, Bags.dec_min]; rfl)
      go_enter Tryz.func23, Tryz.ntmps23
      go_wp2_with fail
      go_ret
      exact ⟨by rw [HR.out]; rfl, rfl⟩
    · have hne : -n ≤ 9223372036854775807 := by omega
      have hl : (Bags.dec n.natAbs).length ≤ 60 := by
        have := Bags.dec_len 29 n.natAbs (by have : (10 : Nat) ^ (29 + 1) = 1000000000000000000000000000000 := by decide
                                             omega)
        omega
      have HI := Lib.hid (show Calls Tryz.prog 23 #[.int .i64 (-n)] w fun e w' => e = .returned (.string (tx (Bags.dec n.natAbs))) ∧ w = w' by
        have := decimal_nat n.natAbs w (by omega)
        rwa [show (n.natAbs : Int) = -n by omega] at this)
      obtain ⟨A1, a1, e1⟩ := cat (Lib.hid (rfl : ⟨#[45]⟩ = tx [45])) (Lib.hid (rfl : tx (Bags.dec n.natAbs) = tx (Bags.dec n.natAbs))) (by simp; omega)
      have HA := Lib.hid (show Ending.returned (Value.string A1) = .returned (.string (tx (Bags.decInt n))) by rw [a1.out, Bags.decInt, if_pos h]; rfl)
      clear hl
      go_enter Tryz.func23, Tryz.ntmps23
      go_wp2_with fail
      refine HI.out.mono ?_
      rintro e w2 ⟨rfl, rfl⟩
      go_wp2_with fail
      go_ret
      exact ⟨HA.out, rfl⟩
  · have := decimal_nat n.natAbs w (by omega)
    rw [show (n.natAbs : Int) = n by omega] at this
    refine this.mono ?_
    rintro e w2 ⟨rfl, rfl⟩
    exact ⟨by rw [Bags.decInt, if_neg h], rfl⟩
end Go.Proofs.YtoephflcjllaaaaGreatDoor
/- The reference's printer: lists. -/
namespace Go.Proofs.YtoephflcjllaaaaGreatDoor
open Go.RowKit

theorem kids_cell {w : World} {B g n cap : Nat} {ks : List Nat} (h : kidsV w B (.slice (some ⟨g, 0, none⟩) n cap) ks) {k : Nat} (hk : k < ks.length) : w.cell? ⟨g, k, none⟩ = some (.pointer (some ⟨ks[k], 0, none⟩)) := by
  have h : w.ownsRow B 30 1 (.slice (some ⟨g, 0, none⟩) n cap) ks.length (ks.map ptr) := h
  have hn : n = ks.length := by
    obtain ⟨h1, ⟨h2, h3⟩ | ⟨g', cap', cur, h2, _⟩⟩ := h
    · cases h2
    · injection h2
  subst hn
  exact (h.cellAt _ (by omega)).trans (by simp [hk, ptr])
theorem kids_fr {w w' : World} {B : Nat} {v : Value} {ks : List Nat} (h : kidsV w B v ks) (hf : Fr (fun _ => False) w w') : kidsV w' B v ks :=
  ownsRow_fr h hf (fun _ h => h.elim) (fun _ _ h => h)
theorem kids_slice {w : World} {B : Nat} {v : Value} {ks : List Nat} (h : kidsV w B v ks) : ∃ base cap, v = .slice base ks.length cap := by
  obtain ⟨h1, ⟨rfl, h2⟩ | ⟨g, cap, cur, rfl, _⟩⟩ := h
  · exact ⟨none, 0, by rw [h2]⟩
  · exact ⟨_, _, rfl⟩
theorem kids_base {w : World} {B : Nat} {a : Option Addr} {c : Nat} {ks : List Nat} (h : kidsV w B (.slice a ks.length c) ks) (h0 : 0 < ks.length) : ∃ g, a = some ⟨g, 0, none⟩ := by
  obtain ⟨h1, ⟨h2, h3⟩ | ⟨g, cap', cur, h2, _⟩⟩ := h
  · omega
  · injection h2 with h2; exact ⟨_, h2⟩

set_option maxRecDepth 100000 in
set_option maxHeartbeats 1000000 in
theorem printed_ref {B : Nat} {v : Value} {ks : List Nat} {ss : List Bags.Str} {w : World} (hown : kidsV w B v ks) (hss : ss.length = ks.length)
    (hc : ∀ (k : Nat) (h : k < ks.length) (h' : k < ss.length) (W : World), Fr (fun _ => False) w W → Calls Tryz.prog 10 #[.pointer (some ⟨ks[k], 0, none⟩)] W (PPost W ss[k]))
    (hl : (ss.map fun a => a.length + 2).sum ≤ 1099511627776) :
    Calls Tryz.prog 43 #[v] w (PPost w (Bags.joinC ss)) := by
  have HC := Lib.hid hc
  have HO := Lib.hid hown
  clear hc
  obtain ⟨base, cap, rfl⟩ := kids_slice hown
  clear hown
  go_enter Tryz.func43, Tryz.ntmps43
  go_wp2_with fail
  go_loopw [3, 4] (fun tv kv wr => ∃ k : Nat, k ≤ ks.length ∧ kv = .int .i64 k ∧ tv = .string (tx (Bags.joinC (ss.take k))) ∧ Fr (fun _ => False) w wr) (fun _ kv _ => ks.length - (intOf kv).toNat)
  case atStart => exact ⟨0, by omega, rfl, rfl, Fr.refl _ _⟩
  case round =>
    rename_i wr
    obtain ⟨k, hk, rfl, rfl, hF⟩ := hrel
    have HF := Lib.hid hF
    clear hF
    have hkm : ks.length ≤ 1099511627776 := by have := Bags.sum_ge ss; omega
    by_cases hlt : k < ks.length
    · have hlt' : (k : Int) < (ks.length : Int) := by omega
      have hk0 : (0 : Int) ≤ (k : Int) := by omega
      have hks : k < ss.length := by omega
      have hb1 := Bags.joinC_len (ss.take k)
      have hb2 := Bags.sum_at (fun a => a.length + 2) ss k hks
      obtain ⟨B1, b1, f1⟩ := cat (Lib.hid (rfl : tx (Bags.joinC (ss.take k)) = tx (Bags.joinC (ss.take k)))) (Lib.hid (rfl : ⟨#[44, 32]⟩ = tx [44, 32])) (by simp; omega)
      obtain ⟨B2, b2, f2⟩ := cat b1 (Lib.hid (rfl : tx ss[k] = tx ss[k])) (by simp; omega)
      obtain ⟨C2, c2, g2⟩ := cat (Lib.hid (rfl : tx (Bags.joinC (ss.take k)) = tx (Bags.joinC (ss.take k)))) (Lib.hid (rfl : tx ss[k] = tx ss[k])) (by omega)
      obtain ⟨g, rfl⟩ := kids_base HO.out (by omega)
      have l0 := kids_cell (kids_fr HO.out HF.out) hlt
      have HK := Lib.hid (HC.out k hlt hks)
      have HLT := Lib.hid hlt
      by_cases hk1 : k = 0
      · have HR := Lib.hid (show Value.string C2 = .string (tx (Bags.joinC (ss.take (k + 1)))) by rw [c2.out]; subst hk1; rw [Bags.joinC_first hks])
        have hk2 : ¬ (0 : Int) < (k : Int) := by omega
        clear f1 f2 hb1 hb2 hk1
        go_wp2_with fail
        refine (HK.out _ HF.out).mono ?_
        rintro e w2 ⟨rfl, hF'⟩
        have HF2 := Lib.hid (HF.out.trans hF' (fun _ _ h => h))
        clear hF'
        go_wp2_with fail
        go_roundw
        case rel => exact ⟨k + 1, HLT.out, by go_num, HR.out, HF2.out⟩
        case measure => have := HLT.out; simp [intOf]; omega
      · have HR := Lib.hid (show Value.string B2 = .string (tx (Bags.joinC (ss.take (k + 1)))) by rw [b2.out, Bags.joinC_next hks hk1])
        have hk2 : (0 : Int) < (k : Int) := by omega
        clear g2 hb1 hb2 hk1
        go_wp2_with fail
        refine (HK.out _ HF.out).mono ?_
        rintro e w2 ⟨rfl, hF'⟩
        have HF2 := Lib.hid (HF.out.trans hF' (fun _ _ h => h))
        clear hF'
        go_wp2_with fail
        go_roundw
        case rel => exact ⟨k + 1, HLT.out, by go_num, HR.out, HF2.out⟩
        case measure => have := HLT.out; simp [intOf]; omega
    · obtain rfl : k = ks.length := by omega
      have HE := Lib.hid (show ss.take ks.length = ss by rw [← hss]; exact List.take_length)
      go_wp2_with fail
      go_ret
      exact ⟨congrArg (fun x => Ending.returned (.string (tx (Bags.joinC x)))) HE.out, HF.out⟩
end Go.Proofs.YtoephflcjllaaaaGreatDoor
