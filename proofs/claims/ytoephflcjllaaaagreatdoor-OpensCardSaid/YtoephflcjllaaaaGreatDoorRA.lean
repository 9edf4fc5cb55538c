/- Walks of the reference: in, run, isKey, isName, number, quoted. -/
import Derived.Test.YtoephflcjllaaaaGreatDoorC
namespace Bags
/-- Stands the text t in s? -/
def isIn (t s : Str) : Bool := (List.range (s.length + 1 - t.length)).any fun k => (s.drop k).take t.length == t
theorem isIn_iff {t s : Str} : isIn t s = true ↔ ∃ k, k + t.length ≤ s.length ∧ (s.drop k).take t.length = t := by
  unfold isIn
  simp only [List.any_eq_true, List.mem_range, beq_iff_eq]
  constructor
  · rintro ⟨k, h1, h2⟩; exact ⟨k, by omega, h2⟩
  · rintro ⟨k, h1, h2⟩; exact ⟨k, by omega, h2⟩
theorem isIn_no {t s : Str} (h : ∀ k, k + t.length ≤ s.length → (s.drop k).take t.length ≠ t) : isIn t s = false := by
  cases hb : isIn t s with
  | false => rfl
  | true => obtain ⟨k, h1, h2⟩ := isIn_iff.1 hb; exact absurd h2 (h k h1)
theorem isIn_one (c : UInt8) (s : Str) : isIn [c] s = s.contains c := by
  rw [Bool.eq_iff_iff, isIn_iff, List.contains_iff_mem]
  constructor
  · rintro ⟨k, h1, h2⟩
    rw [List.length_singleton] at h2
    have : c ∈ (s.drop k).take 1 := by rw [h2]; simp
    exact List.mem_of_mem_drop (List.mem_of_mem_take this)
  · intro h
    obtain ⟨k, hk, rfl⟩ := List.getElem_of_mem h
    refine ⟨k, by simp; omega, ?_⟩
    rw [List.drop_eq_getElem_cons hk]; rfl
def reserved : Str := [32, 115, 101, 108, 101, 99, 116, 32, 100, 105, 115, 116, 105, 110, 99, 116, 32, 102, 114, 111, 109, 32, 119, 104, 101, 114, 101, 32, 103, 114, 111, 117, 112, 32, 98, 121, 32, 104, 97, 118, 105, 110, 103, 32, 97, 115, 32, 117, 110, 105, 111, 110, 32, 105, 110, 116, 101, 114, 115, 101, 99, 116, 32, 101, 120, 99, 101, 112, 116, 32, 97, 108, 108, 32, 97, 110, 121, 32, 97, 110, 100, 32, 111, 114, 32, 110, 111, 116, 32, 101, 120, 105, 115, 116, 115, 32, 105, 110, 32, 105, 115, 32, 110, 117, 108, 108, 32, 99, 111, 117, 110, 116, 32, 115, 117, 109, 32, 109, 105, 110, 32, 109, 97, 120, 32]
def keyIn (s : Str) : Bool := isIn ([32] ++ s ++ [32]) reserved
def digitsS : Str := [48, 49, 50, 51, 52, 53, 54, 55, 56, 57]
def lettersS : Str := [97, 98, 99, 100, 101, 102, 103, 104, 105, 106, 107, 108, 109, 110, 111, 112, 113, 114, 115, 116, 117, 118, 119, 120, 121, 122, 65, 66, 67, 68, 69, 70, 71, 72, 73, 74, 75, 76, 77, 78, 79, 80, 81, 82, 83, 84, 85, 86, 87, 88, 89, 90, 95]
def alnumS : Str := [97, 98, 99, 100, 101, 102, 103, 104, 105, 106, 107, 108, 109, 110, 111, 112, 113, 114, 115, 116, 117, 118, 119, 120, 121, 122, 65, 66, 67, 68, 69, 70, 71, 72, 73, 74, 75, 76, 77, 78, 79, 80, 81, 82, 83, 84, 85, 86, 87, 88, 89, 90, 95, 48, 49, 50, 51, 52, 53, 54, 55, 56, 57]
def nameIn (s : Str) : Bool := match s with
  | [] => false
  | c :: _ => lettersS.contains c && decide ((s.takeWhile alnumS.contains).length = s.length) && !keyIn s
theorem nameIn_cons (c : UInt8) (r : Str) : nameIn (c :: r) = (decide ((([c] : Str).takeWhile lettersS.contains).length = 1) && decide (((c :: r).takeWhile alnumS.contains).length = (c :: r).length) && !keyIn (c :: r)) := by
  unfold nameIn
  dsimp only
  congr 2
  rw [List.takeWhile_cons]
  cases lettersS.contains c <;> rfl
end Bags
namespace Go.Proofs.YtoephflcjllaaaaGreatDoor
open Go.RowKit

theorem extract_at {s t : ByteArray} {k : Nat} : ((s.extract k (k + t.size)).toList == t.toList) = decide (((bs s).drop k).take (bs t).length = bs t) := by
  rw [bs_toList, bs_toList, extract_eq, show k + t.size - k = t.size by omega, ← bs_length, Bool.eq_iff_iff]
  simp

set_option maxHeartbeats 400000 in
theorem in_any (t s : ByteArray) (w : World) (hs : s.size ≤ 140737488351232) (ht : t.size ≤ 140737488351232) :
    Calls Tryz.prog 58 #[.string t, .string s] w fun e w' => e = .returned (.bool (Bags.isIn (bs t) (bs s))) ∧ w = w' := by
  go_enter Tryz.func58, Tryz.ntmps58
  go_wp2_with fail
  go_loop [5] (fun v => ∃ k : Nat, v = .int .i64 k ∧ k ≤ s.size + 1 ∧ ∀ j, j < k → j + t.size ≤ s.size → ((bs s).drop j).take (bs t).length ≠ bs t) (fun v => s.size + 1 - (intOf v).toNat)
  case atStart => exact ⟨0, rfl, by omega, fun j h => absurd h (by omega)⟩
  case round =>
    obtain ⟨k, rfl, hk, hno⟩ := hrel
    have HN := Lib.hid hno
    clear hno
    by_cases hlt : k + t.size ≤ s.size
    · have hlt' : (k : Int) + (t.size : Int) ≤ (s.size : Int) := by omega
      by_cases hm : ((bs s).drop k).take (bs t).length = bs t
      · have hy : ((s.extract k (k + t.size)).toList == t.toList) = true := by rw [extract_at]; simpa using hm
        have hr : Bags.isIn (bs t) (bs s) = true := Bags.isIn_iff.2 ⟨k, by simp only [bs_length]; exact hlt, hm⟩
        clear hm
        go_wp2_with fail
        go_ret
        exact ⟨rfl, rfl⟩
      · have hy : ((s.extract k (k + t.size)).toList == t.toList) = false := by rw [extract_at]; simpa using hm
        have HM := Lib.hid hm
        clear hm
        go_wp2_with fail
        refine ⟨⟨k + 1, by simp, by omega, fun j hj h2 => ?_⟩, by simp [intOf]; omega⟩
        rcases Nat.lt_or_ge j k with h3 | h3
        · exact HN.out j h3 h2
        · obtain rfl : j = k := by omega
          exact HM.out
    · have hlt' : ¬ (k : Int) + (t.size : Int) ≤ (s.size : Int) := by omega
      have hr : Bags.isIn (bs t) (bs s) = false := Bags.isIn_no fun j h => HN.out j (by simp only [bs_length] at h; omega) (by simpa only [bs_length] using h)
      go_wp2_with fail
      go_ret
      exact ⟨rfl, rfl⟩

theorem extract_one {s : ByteArray} {k : Nat} (h : k < s.size) : bs (s.extract k (k + 1)) = [s[k]] := by
  rw [extract_eq, show k + 1 - k = 1 by omega, drop_cons s k h]; rfl

set_option maxHeartbeats 400000 in
theorem run_any (s t : ByteArray) (w : World) (hs : s.size ≤ 140737488351232) (ht : t.size ≤ 140737488351232) :
    Calls Tryz.prog 36 #[.string s, .string t] w fun e w' => e = .returned (.int .i64 ((bs s).takeWhile (bs t).contains).length) ∧ w = w' := by
  have h0 : ((bs s).takeWhile (bs t).contains).length = spanTo (bs t).contains s 0 := by unfold spanTo; simp
  rw [h0]
  clear h0
  have HI := Lib.hid (fun (a : ByteArray) (h : a.size ≤ 140737488351232) => in_any a t w ht h)
  generalize hp : (bs t).contains = p at *
  go_enter Tryz.func36, Tryz.ntmps36
  go_wp2_with fail
  go_loop [5] (fun v => ∃ k : Nat, v = .int .i64 k ∧ k ≤ s.size ∧ spanTo p s k = spanTo p s 0) (fun v => s.size - (intOf v).toNat)
  case atStart => exact ⟨0, rfl, by omega, rfl⟩
  case round =>
    obtain ⟨k, rfl, hk, he⟩ := hrel
    have HE := Lib.hid he
    clear he
    by_cases hlt : k < s.size
    · have hlt' : (k : Int) < (s.size : Int) := by omega
      have hx := HI.out (s.extract k (k + 1)) (by rw [← bs_length, extract_one hlt]; simp)
      rw [extract_one hlt, Bags.isIn_one, hp] at hx
      cases hb : p s[k]
      · have HF := Lib.hid (HE.out.symm.trans (spanTo_no hlt hb))
        rw [hb] at hx
        have HX := Lib.hid hx
        clear hx hb
        go_wp2_with fail
        refine HX.out.mono ?_
        rintro e w' ⟨rfl, rfl⟩
        go_wp2_with fail
        go_ret
        exact ⟨by rw [HF.out]; rfl, rfl⟩
      · have HF := Lib.hid ((spanTo_yes hlt hb).symm.trans HE.out)
        rw [hb] at hx
        have HX := Lib.hid hx
        clear hx hb
        go_wp2_with fail
        refine HX.out.mono ?_
        rintro e w' ⟨rfl, rfl⟩
        go_wp2_with fail
        exact ⟨⟨k + 1, by simp, by omega, HF.out⟩, by simp [intOf]; omega⟩
    · have hlt' : ¬ (k : Int) < (s.size : Int) := by omega
      have HF := Lib.hid (HE.out.symm.trans (spanTo_stop hlt))
      go_wp2_with fail
      go_ret
      exact ⟨by rw [HF.out]; rfl, rfl⟩

theorem cat_tx (a b : ByteArray) : bs (a ++ b) = bs a ++ bs b := by
  unfold bs; rw [ByteArray.data_append, Array.toList_append]

set_option maxRecDepth 100000 in
set_option maxHeartbeats 400000 in
theorem isKey_any (s : ByteArray) (w : World) (hs : s.size ≤ 140737488351000) :
    Calls Tryz.prog 57 #[.string s] w fun e w' => e = .returned (.bool (Bags.keyIn (bs s))) ∧ w = w' := by
  go_enter Tryz.func57, Tryz.ntmps57
  go_wp2_with fail
  refine (in_any _ _ _ (by decide) ?_).mono ?_
  · rw [← bs_length, cat_tx, cat_tx, List.length_append, List.length_append, bs_length]; show 1 + s.size + 1 ≤ _; omega
  rintro e w' ⟨rfl, rfl⟩
  rw [show ∀ t : ByteArray, Bags.isIn (bs ({data := #[32]} ++ s ++ {data := #[32]})) (bs t) = Bags.isIn ([32] ++ bs s ++ [32]) (bs t) from fun t => by rw [cat_tx, cat_tx]; rfl]
  go_wp2_with fail
  go_ret
  exact ⟨rfl, rfl⟩

theorem bs_cons {s : ByteArray} (h : 0 < s.size) : bs s = s[0] :: (bs s).drop 1 := by
  have := drop_cons s 0 h
  rwa [List.drop_zero] at this
theorem bs_empty {s : ByteArray} (h : s.size = 0) : bs s = [] := by
  have := bs_length s
  exact List.eq_nil_of_length_eq_zero (by omega)

set_option maxRecDepth 100000 in
set_option maxHeartbeats 400000 in
theorem isName_ref (s : ByteArray) (w : World) (hs : s.size ≤ 140737488351000) :
    Calls Tryz.prog 34 #[.string s] w fun e w' => e = .returned (.bool (Bags.nameIn (bs s))) ∧ w = w' := by
  by_cases h0 : s.size = 0
  · have e0 : bs s = [] := bs_empty h0
    have hr : Bags.nameIn (bs s) = false := by rw [e0]; rfl
    have ht : s.toList.isEmpty = true := by rw [bs_toList, e0]; rfl
    rw [hr]
    clear h0 e0 hr
    go_enter Tryz.func34, Tryz.ntmps34
    go_wp2_with fail
    go_ret
    exact ⟨rfl, rfl⟩
  · have ht : s.toList.isEmpty = false := by
      rw [bs_toList, bs_cons (by omega)]; rfl
    have hc := bs_cons (s := s) (by omega)
    have h1 : bs (s.extract 0 1) = [s[0]] := extract_one (by omega)
    have hR := run_any (s.extract 0 1) (tx Bags.lettersS) w (by rw [← bs_length, h1]; simp) (by decide)
    rw [h1, bs_tx] at hR
    have HM := Lib.hid (run_any s (tx Bags.alnumS) w (by omega) (by decide))
    have HK := Lib.hid (isKey_any s w hs)
    have hr : Bags.nameIn (bs s) = (decide ((([s[0]] : List UInt8).takeWhile Bags.lettersS.contains).length = 1) && decide (((bs s).takeWhile Bags.alnumS.contains).length = s.size) && !Bags.keyIn (bs s)) := by
      conv => lhs; rw [hc]
      rw [Bags.nameIn_cons, ← hc, bs_length]
    rw [hr]
    clear hr
    generalize (([s[0]] : List UInt8).takeWhile Bags.lettersS.contains).length = n at *
    generalize hm : ((bs s).takeWhile Bags.alnumS.contains).length = m at *
    have HM2 := Lib.hid hm
    have HR := Lib.hid hR
    have hs1 : (1 : Int) ≤ (s.size : Int) := by omega
    clear h1 hc hR hm
    go_enter Tryz.func34, Tryz.ntmps34
    go_wp2_with fail
    refine HR.out.mono ?_
    rintro e w' ⟨rfl, rfl⟩
    go_wp2_with fail
    refine HM.out.mono ?_
    rintro e w' ⟨rfl, rfl⟩
    rw [bs_tx, HM2.out]
    go_wp2_with fail
    refine HK.out.mono ?_
    rintro e w' ⟨rfl, rfl⟩
    go_wp2_with fail
    all_goals
      go_ret
      refine ⟨ret_bool ?_, rfl⟩
      first
        | (rw [decide_eq_false (show ¬ m = s.size by omega)]; simp; done)
        | (rw [decide_eq_false (show ¬ n = 1 by omega)]; simp; done)
        | (rw [decide_eq_true (show n = 1 by omega), decide_eq_true (show m = s.size by omega)]; simp; done)
        | (simp_all; done)

/-! ### Numbers -/
theorem w64 {n : Int} (h : -9223372036854775808 ≤ n ∧ n ≤ 9223372036854775807) : wrap64 n = n := by unfold wrap64; omega
theorem num_lim {d : Int} (hd : 48 ≤ d ∧ d ≤ 57) : (-9223372036854775808 + (d - 48)).tdiv 10 = -((9223372036854775808 - (d - 48)) / 10) := by
  rw [show (-9223372036854775808 + (d - 48) : Int) = -(9223372036854775808 - (d - 48)) by omega, Int.neg_tdiv, Int.tdiv_eq_ediv_of_nonneg (by omega)]
theorem num_next {d : Int} {n : Nat} (hd : 48 ≤ d ∧ d ≤ 57) (h : -((9223372036854775808 - (d - 48)) / 10) ≤ -(n : Int)) :
    wrap64 (wrap64 (10 * -(n : Int)) - (d - 48)) = -(((10 * n + (d.toNat - 48) : Nat)) : Int) := by
  rw [w64 (n := 10 * -(n : Int)) (by omega), w64 (by omega)]; omega
theorem ret_two {x : Value} {a b : Bool} (h : a = b) : Ending.returned (.tuple #[x, .bool a]) = .returned (.tuple #[x, .bool b]) := by rw [h]
set_option maxRecDepth 100000 in
set_option maxHeartbeats 400000 in
theorem number_ref (s : ByteArray) (neg : Bool) (w : World) (hs : s.size ≤ 140737488351232) (hd : ∀ c ∈ bs s, Bags.digit c = true) :
    Calls Tryz.prog 37 #[.string s, .bool neg] w fun e w' => (∃ v, e = .returned (.tuple #[.int .i64 v, .bool (decide (Bags.natOf (bs s) < 2 ^ 63 + if neg then 1 else 0))]) ∧
      (Bags.natOf (bs s) < (2 ^ 63 + if neg then 1 else 0) → v = if neg then -(Bags.natOf (bs s) : Int) else Bags.natOf (bs s))) ∧ w = w' := by
  have hz : Bags.natOf (bs s) = natFrom 0 (bs s) := rfl
  rw [hz]
  have HD := Lib.hid hd
  clear hz hd
  go_enter Tryz.func37, Tryz.ntmps37
  go_wp2_with fail
  go_loop [6, 7] (fun a v => ∃ k n : Nat, a = .int .i64 (-(n : Int)) ∧ v = .int .i64 k ∧ k ≤ s.size ∧ n ≤ 2 ^ 63 ∧ natFrom 0 (bs s) = natFrom n ((bs s).drop k)) (fun _ v => s.size - (intOf v).toNat)
  case atStart => exact ⟨0, 0, rfl, rfl, by omega, by omega, rfl⟩
  case round =>
    obtain ⟨k, n, rfl, rfl, hk, hn, he⟩ := hrel
    have HE := Lib.hid he
    clear he
    by_cases hlt : k < s.size
    · have hlt' : (k : Int) < (s.size : Int) := by omega
      have hdg := HD.out s[k] (by have := drop_cons s k hlt; exact List.mem_of_mem_drop (i := k) (by rw [this]; simp))
      rw [digit_eq] at hdg
      have hdg' : 48 ≤ (s[k].toNat : Int) ∧ (s[k].toNat : Int) ≤ 57 := by simpa using hdg
      have hN := HE.out
      rw [drop_cons s k hlt, natFrom_cons] at hN
      have HN := Lib.hid hN
      clear hdg hN
      go_wp2_with fail
      · have hlow : -(n : Int) < (-9223372036854775808 + ((s[k].toNat : Int) - 48)).tdiv 10 := by assumption
        rw [num_lim hdg'] at hlow
        have hbig := natOf_mono ((bs s).drop (k + 1)) (10 * n + (s[k].toNat - 48))
        have hN2 := HN.out
        go_ret2
        exact ⟨⟨0, ret_two (by rw [decide_eq_false]; omega), fun h => by omega⟩, rfl⟩
      · have hlow : -(n : Int) < (-9223372036854775808 + ((s[k].toNat : Int) - 48)).tdiv 10 := by assumption
        rw [num_lim hdg'] at hlow
        have hbig := natOf_mono ((bs s).drop (k + 1)) (10 * n + (s[k].toNat - 48))
        have hN2 := HN.out
        go_ret2
        exact ⟨⟨0, ret_two (by rw [decide_eq_false]; omega), fun h => by omega⟩, rfl⟩
      · rename_i hge
        rw [num_lim hdg'] at hge
        rw [num_next hdg' hge]
        exact ⟨⟨k + 1, 10 * n + (s[k].toNat - 48), by simp, by simp, by omega, by omega, by simpa using HN.out⟩, by simp [intOf]; omega⟩
    · have hlt' : ¬ (k : Int) < (s.size : Int) := by omega
      have hN := HE.out
      rw [drop_nil s k (by omega), show natFrom n [] = n from rfl] at hN
      cases neg
      · go_wp2_with fail
        go_ret2
        refine ⟨⟨_, ret_two ?_, fun h => ?_⟩, rfl⟩
        · rw [Bool.eq_iff_iff]; simp; omega
        · exact w64 (by omega)
      · go_wp2_with fail
        go_ret2
        refine ⟨⟨_, ret_two ?_, fun h => ?_⟩, rfl⟩
        · simp; omega
        · rfl
end Go.Proofs.YtoephflcjllaaaaGreatDoor
