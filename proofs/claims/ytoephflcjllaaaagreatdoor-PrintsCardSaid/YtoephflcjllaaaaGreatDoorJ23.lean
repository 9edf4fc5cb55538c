/- Walks of the reference: in, run, isKey, isName, number, quoted. -/
import Derived.Test.YtoephflcjllaaaaGreatDoorJ04
namespace Bags
/-- Stands the text t in s? -/
def isIn (t s : Str) : Bool := (List.range (s.length + 1 - t.length)).any fun k => (s.drop k).take t.length == t
theorem isIn_iff {t s : Str} : isIn t s = true ↔ ∃ k, k + t.length ≤ s.length ∧ (s.drop k).take t.length = t := by
  unfold isIn
  simp only [List.any_eq_true, List.mem_range, beq_iff_eq]
  constructor
  · rintro ⟨k, h1, h2⟩; exact ⟨k, by omega, h2⟩
  · rintro ⟨k, h1, h2⟩; exact ⟨k, by omega, h2⟩
theorem isIn_no {t s : Str} (h : ∀ k, k + t.length ≤ s.length → (s.drop k).take t.length ≠ t) : isIn t s = false := by
  cases hb : isIn t s with
  | false => rfl
  | true => obtain ⟨k, h1, h2⟩ := isIn_iff.1 hb; exact absurd h2 (h k h1)
theorem isIn_one (c : UInt8) (s : Str) : isIn [c] s = s.contains c := by
  rw [Bool.eq_iff_iff, isIn_iff, List.contains_iff_mem]
  constructor
  · rintro ⟨k, h1, h2⟩
    rw [List.length_singleton] at h2
    have : c ∈ (s.drop k).take 1 := by rw [h2]; simp
    exact List.mem_of_mem_drop (List.mem_of_mem_take this)
  · intro h
    obtain ⟨k, hk, rfl⟩ := List.getElem_of_mem h
    refine ⟨k, by simp; omega, ?_⟩
    rw [List.drop_eq_getElem_cons hk]; rfl
def reserved : Str := [32, 115, 101, 108, 101, 99, 116, 32, 100, 105, 115, 116, 105, 110, 99, 116, 32, 102, 114, 111, 109, 32, 119, 104, 101, 114, 101, 32, 103, 114, 111, 117, 112, 32, 98, 121, 32, 104, 97, 118, 105, 110, 103, 32, 97, 115, 32, 117, 110, 105, 111, 110, 32, 105, 110, 116, 101, 114, 115, 101, 99, 116, 32, 101, 120, 99, 101, 112, 116, 32, 97, 108, 108, 32, 97, 110, 121, 32, 97, 110, 100, 32, 111, 114, 32, 110, 111, 116, 32, 101, 120, 105, 115, 116, 115, 32, 105, 110, 32, 105, 115, 32, 110, 117, 108, 108, 32, 99, 111, 117, 110, 116, 32, 115, 117, 109, 32, 109, 105, 110, 32, 109, 97, 120, 32]
def keyIn (s : Str) : Bool := isIn ([32] ++ s ++ [32]) reserved
def digitsS : Str := [48, 49, 50, 51, 52, 53, 54, 55, 56, 57]
def lettersS : Str := [97, 98, 99, 100, 101, 102, 103, 104, 105, 106, 107, 108, 109, 110, 111, 112, 113, 114, 115, 116, 117, 118, 119, 120, 121, 122, 65, 66, 67, 68, 69, 70, 71, 72, 73, 74, 75, 76, 77, 78, 79, 80, 81, 82, 83, 84, 85, 86, 87, 88, 89, 90, 95]
def alnumS : Str := [97, 98, 99, 100, 101, 102, 103, 104, 105, 106, 107, 108, 109, 110, 111, 112, 113, 114, 115, 116, 117, 118, 119, 120, 121, 122, 65, 66, 67, 68, 69, 70, 71, 72, 73, 74, 75, 76, 77, 78, 79, 80, 81, 82, 83, 84, 85, 86, 87, 88, 89, 90, 95, 48, 49, 50, 51, 52, 53, 54, 55, 56, 57]
def nameIn (s : Str) : Bool := match s with
  | [] => false
  | c :: _ => lettersS.contains c && decide ((s.takeWhile alnumS.contains).length = s.length) && !keyIn s
theorem nameIn_cons (c : UInt8) (r : Str) : nameIn (c :: r) = (decide ((([c] : Str).takeWhile lettersS.contains).length = 1) && decide (((c :: r).takeWhile alnumS.contains).length = (c :: r).length) && !keyIn (c :: r)) := by
  unfold nameIn
  dsimp only
  congr 2
  rw [List.takeWhile_cons]
  cases lettersS.contains c <;> rfl
end Bags
namespace Go.Proofs.YtoephflcjllaaaaGreatDoor
open Go.RowKit

theorem extract_at {s t : ByteArray} {k : Nat} : ((s.extract k (k + t.size)).toList == t.toList) = decide (((bs s).drop k).take (bs t).length = bs t) := by
  rw [bs_toList, bs_toList, extract_eq, show k + t.size - k = t.size by omega, ← bs_length, Bool.eq_iff_iff]
  simp

set_option maxHeartbeats 400000 in
theorem in_any (t s : ByteArray) (w : World) (hs : s.size ≤ 140737488351232) (ht : t.size ≤ 140737488351232) :
    Calls Tryz.prog 58 #[.string t, .string s] w fun e w' => e = .returned (.bool (Bags.isIn (bs t) (bs s))) ∧ w = w' := by
  go_enter Tryz.func58, Tryz.ntmps58
  go_wp2_with fail
  go_loop [5] (fun v => ∃ k : Nat, v = .int .i64 k ∧ k ≤ s.size + 1 ∧ ∀ j, j < k → j + t.size ≤ s.size → ((bs s).drop j).take (bs t).length ≠ bs t) (fun v => s.size + 1 - (intOf v).toNat)
  case atStart => exact ⟨0, rfl, by omega, fun j h => absurd h (by omega)⟩
  case round =>
    obtain ⟨k, rfl, hk, hno⟩ := hrel
    have HN := Lib.hid hno
    clear hno
    by_cases hlt : k + t.size ≤ s.size
    · have hlt' : (k : Int) + (t.size : Int) ≤ (s.size : Int) := by omega
      by_cases hm : ((bs s).drop k).take (bs t).length = bs t
      · have hy : ((s.extract k (k + t.size)).toList == t.toList) = true := by rw [extract_at]; simpa using hm
        have hr : Bags.isIn (bs t) (bs s) = true := Bags.isIn_iff.2 ⟨k, by simp only [bs_length]; exact hlt, hm⟩
        clear hm
        go_wp2_with fail
        go_ret
        exact ⟨rfl, rfl⟩
      · have hy : ((s.extract k (k + t.size)).toList == t.toList) = false := by rw [extract_at]; simpa using hm
        have HM := Lib.hid hm
        clear hm
        go_wp2_with fail
        refine ⟨⟨k + 1, by simp, by omega, fun j hj h2 => ?_⟩, by simp [intOf]; omega⟩
        rcases Nat.lt_or_ge j k with h3 | h3
        · exact HN.out j h3 h2
        · obtain rfl : j = k := by omega
          exact HM.out
    · have hlt' : ¬ (k : Int) + (t.size : Int) ≤ (s.size : Int) := by omega
      have hr : Bags.isIn (bs t) (bs s) = false := Bags.isIn_no fun j h => HN.out j (by simp only [bs_length] at h; omega) (by simpa only [bs_length] using h)
      go_wp2_with fail
      go_ret
      exact ⟨rfl, rfl⟩

theorem extract_one {s : ByteArray} {k : Nat} (h : k < s.size) : bs (s.extract k (k + 1)) = [s[k]] := by
  rw [extract_eq, show k + 1 - k = 1 by omega, drop_cons s k h]; rfl

set_option maxHeartbeats 400000 in
theorem run_any (s t : ByteArray) (w : World) (hs : s.size ≤ 140737488351232) (ht : t.size ≤ 140737488351232) :
    Calls Tryz.prog 36 #[.string s, .string t] w fun e w' => e = .returned (.int .i64 ((bs s).takeWhile (bs t).contains).length) ∧ w = w' := by
  have h0 : ((bs s).takeWhile (bs t).contains).length = spanTo (bs t).contains s 0 := by unfold spanTo; simp
  rw [h0]
  clear h0
  have HI := Lib.hid (fun (a : ByteArray) (h : a.size ≤ 140737488351232) => in_any a t w ht h)
  generalize hp : (bs t).contains = p at *
  go_enter Tryz.func36, Tryz.ntmps36
  go_wp2_with fail
  go_loop [5] (fun v => ∃ k : Nat, v = .int .i64 k ∧ k ≤ s.size ∧ spanTo p s k = spanTo p s 0) (fun v => s.size - (intOf v).toNat)
  case atStart => exact ⟨0, rfl, by omega, rfl⟩
  case round =>
    obtain ⟨k, rfl, hk, he⟩ := hrel
    have HE := Lib.hid he
    clear he
    by_cases hlt : k < s.size
    · have hlt' : (k : Int) < (s.size : Int) := by omega
      have hx := HI.out (s.extract k (k + 1)) (by rw [← bs_length, extract_one hlt]; simp)
      rw [extract_one hlt, Bags.isIn_one, hp] at hx
      cases hb : p s[k]
      · have HF := Lib.hid (HE.out.symm.trans (spanTo_no hlt hb))
        rw [hb] at hx
        have HX := Lib.hid hx
        clear hx hb
        go_wp2_with fail
        refine HX.out.mono ?_
        rintro e w' ⟨rfl, rfl⟩
        go_wp2_with fail
        go_ret
        exact ⟨by rw [HF.out]; rfl, rfl⟩
      · have HF := Lib.hid ((spanTo_yes hlt hb).symm.trans HE.out)
        rw [hb] at hx
        have HX := Lib.hid hx
        clear hx hb
        go_wp2_with fail
        refine HX.out.mono ?_
        rintro e w' ⟨rfl, rfl⟩
        go_wp2_with fail
        exact ⟨⟨k + 1, by simp, by omega, HF.out⟩, by simp [intOf]; omega⟩
    · have hlt' : ¬ (k : Int) < (s.size : Int) := by omega
      have HF := Lib.hid (HE.out.symm.trans (spanTo_stop hlt))
      go_wp2_with fail
      go_ret
      exact ⟨by rw [HF.out]; rfl, rfl⟩

theorem cat_tx (a b : ByteArray) : bs (a ++ b) = bs a ++ bs b := by
  unfold bs; rw [ByteArray.data_append, Array.toList_append]

set_option maxRecDepth 100000 in
set_option maxHeartbeats 400000 in
theorem isKey_any (s : ByteArray) (w : World) (hs : s.size ≤ 140737488351000) :
    Calls Tryz.prog 57 #[.string s] w fun e w' => e = .returned (.bool (Bags.keyIn (bs s))) ∧ w = w' := by
  go_enter Tryz.func57, Tryz.ntmps57
  go_wp2_with fail
  refine (in_any _ _ _ (by decide) ?_).mono ?_
  · rw [← bs_length, cat_tx, cat_tx, List.length_append, List.length_append, bs_length]; show 1 + s.size + 1 ≤ _; omega
  rintro e w' ⟨rfl, rfl⟩
  rw [show ∀ t : ByteArray, Bags.isIn (bs ({data := #[32]} ++ s ++ {data := #[32]})) (bs t) = Bags.isIn ([32] ++ bs s ++ [32]) (bs t) from fun t => by rw [cat_tx, cat_tx]; rfl]
  go_wp2_with fail
  go_ret
  exact ⟨rfl, rfl⟩

theorem bs_cons {s : ByteArray} (h : 0 < s.size) : bs s = s[0] :: (bs s).drop 1 := by
  have := drop_cons s 0 h
  rwa [List.drop_zero] at this
theorem bs_empty {s : ByteArray} (h : s.size = 0) : bs s = [] := by
  have := bs_length s
  exact List.eq_nil_of_length_eq_zero (by omega)

set_option maxRecDepth 100000 in
set_option maxHeartbeats 400000 in
theorem isName_ref (s : ByteArray) (w : World) (hs : s.size ≤ 140737488351000) :
    Calls Tryz.prog 34 #[.string s] w fun e w' => e = .returned (.bool (Bags.nameIn (bs s))) ∧ w = w' := by
  by_cases h0 : s.size = 0
  · have e0 : bs s = [] := bs_empty h0
    have hr : Bags.nameIn (bs s) = false := by rw [e0]; rfl
    have ht : s.toList.isEmpty = true := by rw [bs_toList, e0]; rfl
    rw [hr]
    clear h0 e0 hr
    go_enter Tryz.func34, Tryz.ntmps34
    go_wp2_with fail
    go_ret
    exact ⟨rfl, rfl⟩
  · have ht : s.toList.isEmpty = false := by
      rw [bs_toList, bs_cons (by omega)]; rfl
    have hc := bs_cons (s := s) (by omega)
    have h1 : bs (s.extract 0 1) = [s[0]] := extract_one (by omega)
    have hR := run_any (s.extract 0 1) (tx Bags.lettersS) w (by rw [← bs_length, h1]; simp) (by decide)
    rw [h1, bs_tx] at hR
    have HM := Lib.hid (run_any s (tx Bags.alnumS) w (by omega) (by decide))
    have HK := Lib.hid (isKey_any s w hs)
    have hr : Bags.nameIn (bs s) = (decide ((([s[0]] : List UInt8).takeWhile Bags.lettersS.contains).length = 1) && decide (((bs s).takeWhile Bags.alnumS.contains).length = s.size) && !Bags.keyIn (bs s)) := by
      conv => lhs; rw [hc]
      rw [Bags.nameIn_cons, ← hc, bs_length]
    rw [hr]
    clear hr
    generalize (([s[0]] : List UInt8).takeWhile Bags.lettersS.contains).length = n at *
    generalize hm : ((bs s).takeWhile Bags.alnumS.contains).length = m at *
    have HM2 := Lib.hid hm
    have HR := Lib.hid hR
    have hs1 : (1 : Int) ≤ (s.size : Int) := by omega
    clear h1 hc hR hm
    go_enter Tryz.func34, Tryz.ntmps34
    go_wp2_with fail
    refine HR.out.mono ?_
    rintro e w' ⟨rfl, rfl⟩
    go_wp2_with fail
    refine HM.out.mono ?_
    rintro e w' ⟨rfl, rfl⟩
    rw [bs_tx, HM2.out]
    go_wp2_with fail
    refine HK.out.mono ?_
    rintro e w' ⟨rfl, rfl⟩
    go_wp2_with fail
    all_goals
      go_ret
      refine ⟨ret_bool ?_, rfl⟩
      first
        | (rw [decide_eq_false (show ¬ m = s.size by omega)]; simp; done)
        | (rw [decide_eq_false (show ¬ n = 1 by omega)]; simp; done)
        | (rw [decide_eq_true (show n = 1 by omega), decide_eq_true (show m = s.size by omega)]; simp; done)
        | (simp_all; done)

/-! ### Numbers -/
theorem w64 {n : Int} (h : -9223372036854775808 ≤ n ∧ n ≤ 9223372036854775807) : wrap64 n = n := by unfold wrap64; omega
theorem num_lim {d : Int} (hd : 48 ≤ d ∧ d ≤ 57) : (-9223372036854775808 + (d - 48)).tdiv 10 = -((9223372036854775808 - (d - 48)) / 10) := by
  rw [show (-9223372036854775808 + (d - 48) : Int) = -(9223372036854775808 - (d - 48)) by omega, Int.neg_tdiv, Int.tdiv_eq_ediv_of_nonneg (by omega)]
theorem num_next {d : Int} {n : Nat} (hd : 48 ≤ d ∧ d ≤ 57) (h : -((9223372036854775808 - (d - 48)) / 10) ≤ -(n : Int)) :
    wrap64 (wrap64 (10 * -(n : Int)) - (d - 48)) = -(((10 * n + (d.toNat - 48) : Nat)) : Int) := by
  rw [w64 (n := 10 * -(n : Int)) (by omega), w64 (by omega)]; omega
theorem ret_two {x : Value} {a b : Bool} (h : a = b) : Ending.returned (.tuple #[x, .bool a]) = .returned (.tuple #[x, .bool b]) := by rw [h]
set_option maxRecDepth 100000 in
set_option maxHeartbeats 400000 in
theorem number_ref (s : ByteArray) (neg : Bool) (w : World) (hs : s.size ≤ 140737488351232) (hd : ∀ c ∈ bs s, Bags.digit c = true) :
    Calls Tryz.prog 37 #[.string s, .bool neg] w fun e w' => (∃ v, e = .returned (.tuple #[.int .i64 v, .bool (decide (Bags.natOf (bs s) < 2 ^ 63 + if neg then 1 else 0))]) ∧
      (Bags.natOf (bs s) < (2 ^ 63 + if neg then 1 else 0) → v = if neg then -(Bags.natOf (bs s) : Int) else Bags.natOf (bs s))) ∧ w = w' := by
  have hz : Bags.natOf (bs s) = natFrom 0 (bs s) := rfl
  rw [hz]
  have HD := Lib.hid hd
  clear hz hd
  go_enter Tryz.func37, Tryz.ntmps37
  go_wp2_with fail
  go_loop [6, 7] (fun a v => ∃ k n : Nat, a = .int .i64 (-(n : Int)) ∧ v = .int .i64 k ∧ k ≤ s.size ∧ n ≤ 2 ^ 63 ∧ natFrom 0 (bs s) = natFrom n ((bs s).drop k)) (fun _ v => s.size - (intOf v).toNat)
  case atStart => exact ⟨0, 0, rfl, rfl, by omega, by omega, rfl⟩
  case round =>
    obtain ⟨k, n, rfl, rfl, hk, hn, he⟩ := hrel
    have HE := Lib.hid he
    clear he
    by_cases hlt : k < s.size
    · have hlt' : (k : Int) < (s.size : Int) := by omega
      have hdg := HD.out s[k] (by have := drop_cons s k hlt; exact List.mem_of_mem_drop (i := k) (by rw [this]; simp))
      rw [digit_eq] at hdg
      have hdg' : 48 ≤ (s[k].toNat : Int) ∧ (s[k].toNat : Int) ≤ 57 := by simpa using hdg
      have hN := HE.out
      rw [drop_cons s k hlt, natFrom_cons] at hN
      have HN := Lib.hid hN
      clear hdg hN
      go_wp2_with fail
      · have hlow : -(n : Int) < (-9223372036854775808 + ((s[k].toNat : Int) - 48)).tdiv 10 := by assumption
        rw [num_lim hdg'] at hlow
        have hbig := natOf_mono ((bs s).drop (k + 1)) (10 * n + (s[k].toNat - 48))
        have hN2 := HN.out
        go_ret2
        exact ⟨⟨0, ret_two (by rw [decide_eq_false]; omega), fun h => by omega⟩, rfl⟩
      · have hlow : -(n : Int) < (-9223372036854775808 + ((s[k].toNat : Int) - 48)).tdiv 10 := by assumption
        rw [num_lim hdg'] at hlow
        have hbig := natOf_mono ((bs s).drop (k + 1)) (10 * n + (s[k].toNat - 48))
        have hN2 := HN.out
        go_ret2
        exact ⟨⟨0, ret_two (by rw [decide_eq_false]; omega), fun h => by omega⟩, rfl⟩
      · rename_i hge
        rw [num_lim hdg'] at hge
        rw [num_next hdg' hge]
        exact ⟨⟨k + 1, 10 * n + (s[k].toNat - 48), by simp, by simp, by omega, by omega, by simpa using HN.out⟩, by simp [intOf]; omega⟩
    · have hlt' : ¬ (k : Int) < (s.size : Int) := by omega
      have hN := HE.out
      rw [drop_nil s k (by omega), show natFrom n [] = n from rfl] at hN
      cases neg
      · go_wp2_with fail
        go_ret2
        refine ⟨⟨_, ret_two ?_, fun h => ?_⟩, rfl⟩
        · rw [Bool.eq_iff_iff]; simp; omega
        · exact w64 (by omega)
      · go_wp2_with fail
        go_ret2
        refine ⟨⟨_, ret_two ?_, fun h => ?_⟩, rfl⟩
        · simp; omega
        · rfl
end Go.Proofs.YtoephflcjllaaaaGreatDoor
/- The tables' text: lines, pieces, names, values; at which line it is wrong. A plain text. -/
namespace Bags
/-- The first piece of a line that is not empty (a blank is none), and how many bytes it takes; none: none can begin here. -/
def pieceLen (s : Str) : Nat := match s with
  | [] => 0
  | c :: r => if c = 39 then (match quo r with | some p => p.2 + 1 | none => 0) else (s.takeWhile fun c => c != 32 && c != 39).length
def pieceEnds (s : Str) : Bool := match s with
  | [] => true
  | d :: _ => d == 32
def pieceOne (s : Str) : Option (Option Str × Nat) :=
  match s with
  | [] => none
  | c :: _ => if c = 32 then some (none, 1) else if pieceLen s = 0 then none else if pieceEnds (s.drop (pieceLen s)) then some (some (s.take (pieceLen s)), pieceLen s) else none
def pieceLoop : Nat → Str → Option (List Str)
  | 0, _ => some []
  | n+1, s => match s with
    | [] => some []
    | _ :: _ => match pieceOne s with
      | none => none
      | some (p, k) => (pieceLoop n (s.drop k)).map (p.toList ++ ·)
def pieces (s : Str) : Option (List Str) := pieceLoop (s.length + 1) s

theorem pieceLen_le (s : Str) : pieceLen s ≤ s.length := by
  unfold pieceLen
  split
  · simp
  · rename_i c r
    split
    · cases hq : quo r with
      | none => simp
      | some p => have := quo_len (t := p.1) (k := p.2) hq; simp only [List.length_cons]; omega
    · exact takeWhile_len _ _
theorem pieceOne_len {s : Str} {w : Option Str} {k : Nat} (h : pieceOne s = some (w, k)) : 1 ≤ k ∧ k ≤ s.length := by
  unfold pieceOne at h
  split at h
  · cases h
  · rename_i c r
    have aux : ∀ {o : Option Str} {n : Nat}, some (o, n) = some (w, k) → n = k := fun e => by injection e with e; injection e
    split at h
    · rw [← aux h]; simp
    · split at h
      · cases h
      · split at h
        · rw [← aux h]; exact ⟨by omega, pieceLen_le _⟩
        · cases h
theorem pieceOne_text {s : Str} {p : Str} {k : Nat} (h : pieceOne s = some (some p, k)) : p ≠ [] ∧ p.length ≤ s.length := by
  have hl := pieceOne_len h
  unfold pieceOne at h
  split at h
  · cases h
  · rename_i c r
    split at h
    · cases h
    · split at h
      · cases h
      · split at h
        · injection h with h
          injection h with h1 h2
          injection h1 with h1
          have := congrArg List.length h1
          rw [List.length_take, h2] at this
          refine ⟨fun e => ?_, by omega⟩
          rw [e] at this; simp at this; simp at hl; omega
        · cases h
theorem pieceLoop_fuel : ∀ (n m : Nat) (s : Str), s.length < n → s.length < m → pieceLoop n s = pieceLoop m s
  | 0, _, _, h, _ => by omega
  | _+1, 0, _, _, h => by omega
  | n+1, m+1, s, h, h' => by
    cases s with
    | nil => simp [pieceLoop]
    | cons c r =>
      simp only [pieceLoop]
      cases hl : pieceOne (c :: r) with
      | none => rfl
      | some p =>
        obtain ⟨w, k⟩ := p
        have := pieceOne_len hl
        simp only
        rw [pieceLoop_fuel n m _ (by simp only [List.length_drop, List.length_cons] at *; omega) (by simp only [List.length_drop, List.length_cons] at *; omega)]
/-- The pieces from the byte k on. -/
def piecesAt (s : Str) (k : Nat) : Option (List Str) := pieceLoop (s.length + 1) (s.drop k)
theorem piecesAt_end {s : Str} {k : Nat} (h : s.length ≤ k) : piecesAt s k = some [] := by
  unfold piecesAt; rw [List.drop_of_length_le h]; simp [pieceLoop]
theorem piecesAt_no {s : Str} {k : Nat} (hk : k < s.length) (h : pieceOne (s.drop k) = none) : piecesAt s k = none := by
  unfold piecesAt
  cases hd : s.drop k with
  | nil => have := congrArg List.length hd; simp at this; omega
  | cons c r => rw [hd] at h; simp only [pieceLoop, h]
theorem piecesAt_step {s : Str} {k j : Nat} {w : Option Str} (hk : k < s.length) (h : pieceOne (s.drop k) = some (w, j)) : piecesAt s k = (piecesAt s (k + j)).map (w.toList ++ ·) := by
  have hj := pieceOne_len h
  have e : (s.drop k).drop j = s.drop (k + j) := by rw [List.drop_drop]
  unfold piecesAt
  cases hd : s.drop k with
  | nil => have := congrArg List.length hd; simp at this; omega
  | cons c r =>
    rw [hd] at h e
    conv => lhs; unfold pieceLoop
    simp only [h, e]
    rw [pieceLoop_fuel s.length (s.length + 1) _ (by simp only [List.length_drop] at *; omega) (by simp only [List.length_drop] at *; omega)]
theorem pieces_text : ∀ (n : Nat) (s : Str) (l : List Str), pieceLoop n s = some l → (∀ p ∈ l, p ≠ [] ∧ p.length ≤ s.length) ∧ l.length ≤ s.length
  | 0, _, l, h => by simp [pieceLoop] at h; subst h; simp
  | n+1, s, l, h => by
    cases s with
    | nil => simp [pieceLoop] at h; subst h; simp
    | cons c r =>
      simp only [pieceLoop] at h
      cases hl : pieceOne (c :: r) with
      | none => rw [hl] at h; cases h
      | some p =>
        obtain ⟨w, k⟩ := p
        rw [hl] at h
        simp only [Option.map_eq_some_iff] at h
        obtain ⟨l', h1, h2⟩ := h
        have hk := pieceOne_len hl
        obtain ⟨i1, i2⟩ := pieces_text n _ l' h1
        rw [List.length_drop] at i2
        refine ⟨fun p hp => ?_, ?_⟩
        · rw [← h2, List.mem_append] at hp
          rcases hp with hp | hp
          · cases w with
            | none => cases hp
            | some q => simp at hp; subst hp; exact pieceOne_text hl
          · have := i1 p hp
            rw [List.length_drop] at this
            exact ⟨this.1, by omega⟩
        · rw [← h2, List.length_append]
          cases w <;> simp at * <;> omega

/-! ### Names, values -/
def nameP (s : Str) : Bool := match s with
  | [] => false
  | c :: _ => letter c && decide ((s.takeWhile alnum).length = s.length) && !keywords.contains s
def intOK (s : Str) : Bool :=
  let neg := s.head? == some 45
  let d := if neg then s.drop 1 else s
  d ≠ [] && d.all digit && decide (natOf d < 2 ^ 63 + if neg then 1 else 0)
/-- May that piece stand in a column (of texts: t)? -/
def valOK (s : Str) (t : Bool) : Bool := if s = str "null" then true else if s.head? = some 39 then t else intOK s && !t
/-- The columns: names and kinds. -/
def colsOf : List Str → List Str → Option (List Bool)
  | _, [] => some []
  | _, [_] => none
  | seen, a :: k :: r => if nameP a && !seen.contains a && (k == str "int" || k == str "text") then (colsOf (seen ++ [a]) r).map ((k == str "text") :: ·) else none
/-- A table's line: its name, and its columns' kinds. -/
def headOf (l : List Str) : Option (Str × List Bool) :=
  if l.length < 4 ∨ l.length % 2 = 1 ∨ 14 < l.length then none else
  match l with
  | _ :: n :: r => if nameP n then (colsOf [] r).map fun c => (n, c) else none
  | _ => none
def rowOK (l : List Str) (kinds : List Bool) : Bool := decide (l.length = kinds.length) && (l.zip kinds).all fun p => valOK p.1 p.2

/-- The names of the tables; the last one's kinds and how many rows it has. -/
structure Tabs where
  names : List Str
  kinds : List Bool
  rows : Nat
def lineOne (t : Tabs) (s : Str) : Option Tabs :=
  match pieces s with
  | none => none
  | some [] => some t
  | some (w :: l) =>
    if w = str "table" then match headOf (w :: l) with
      | none => none
      | some (n, c) => if t.names.contains n || t.names.length == 8 then none else some ⟨t.names ++ [n], c, 0⟩
    else if w = str "row" ∧ t.names ≠ [] ∧ t.rows ≠ 12 ∧ rowOK l t.kinds = true then some { t with rows := t.rows + 1 } else none
/-- From the line n (of 0) on: the line (of 1) that is wrong; none: none is. -/
def dataFrom : Nat → Tabs → List Str → Option Nat
  | _, _, [] => none
  | n, t, s :: r => match lineOne t s with
    | none => some (n + 1)
    | some t' => dataFrom (n + 1) t' r
def linesOf : Str → List Str
  | [] => [[]]
  | c :: r => if c = 10 then [] :: linesOf r else match linesOf r with
    | [] => [[c]]
    | l :: ls => (c :: l) :: ls
def dataOf (s : Str) : Option Nat := if 4000 < s.length then some 0 else dataFrom 0 ⟨[], [], 0⟩ (linesOf s)

/-! ### What the reference asks by texts -/
set_option maxRecDepth 100000 in
theorem lettersS_eq (c : UInt8) : lettersS.contains c = letter c := by
  have : ∀ n : Fin 256, lettersS.contains (UInt8.ofNat n) = letter (UInt8.ofNat n) := by decide
  have h := this ⟨c.toNat, c.toNat_lt⟩
  simpa using h
set_option maxRecDepth 100000 in
theorem digitsS_eq (c : UInt8) : digitsS.contains c = digit c := by
  have : ∀ n : Fin 256, digitsS.contains (UInt8.ofNat n) = digit (UInt8.ofNat n) := by decide
  have h := this ⟨c.toNat, c.toNat_lt⟩
  simpa using h
set_option maxRecDepth 100000 in
theorem alnumS_eq (c : UInt8) : alnumS.contains c = alnum c := by
  have : ∀ n : Fin 256, alnumS.contains (UInt8.ofNat n) = alnum (UInt8.ofNat n) := by decide
  have h := this ⟨c.toNat, c.toNat_lt⟩
  simpa using h

theorem takeWhile_stop (p : UInt8 → Bool) (a : UInt8) (ha : p a = false) : ∀ (s r : Str), (∀ c ∈ s, p c = true) → (s ++ a :: r).takeWhile p = s
  | [], r, _ => by simp [ha]
  | c :: s, r, h => by
    rw [List.cons_append, List.takeWhile_cons, if_pos (h c (by simp)), takeWhile_stop p a ha s r (fun x hx => h x (by simp [hx]))]
set_option maxRecDepth 100000 in
theorem reserved_all : ∀ k : Fin 125, k.val + 1 < reserved.length → reserved[k.val]? = some 32 → keywords.contains ((reserved.drop (k.val + 1)).takeWhile (· != 32)) = true := by decide
set_option maxRecDepth 100000 in
theorem keywords_in : ∀ kw ∈ keywords, isIn ([32] ++ kw ++ [32]) reserved = true := by decide
set_option maxRecDepth 100000 in
theorem reserved_length : reserved.length = 125 := by decide
theorem keyIn_eq {s : Str} (hs : ∀ c ∈ s, c ≠ 32) : keyIn s = keywords.contains s := by
  rw [Bool.eq_iff_iff]
  constructor
  · intro h
    unfold keyIn at h
    obtain ⟨k, h1, h2⟩ := isIn_iff.1 h
    have hl : ([32] ++ s ++ [32] : Str).length = s.length + 2 := by simp
    rw [hl] at h1 h2
    have hd : reserved.drop k = 32 :: (s ++ 32 :: (reserved.drop k).drop (s.length + 2)) := by
      conv => lhs; rw [← List.take_append_drop (s.length + 2) (reserved.drop k), h2]
      simp
    have hk : reserved[k]? = some 32 := by
      have := congrArg (·[0]?) hd
      simpa using this
    have hd2 : reserved.drop (k + 1) = s ++ 32 :: (reserved.drop k).drop (s.length + 2) := by
      rw [← List.drop_drop]
      conv => lhs; rw [hd]
      rfl
    have := reserved_all ⟨k, by rw [← reserved_length]; omega⟩ (by simp only; omega) hk
    rw [show (⟨k, by rw [← reserved_length]; omega⟩ : Fin 125).val = k from rfl, hd2, takeWhile_stop (· != 32) 32 (by decide) s _ (fun c hc => by simpa using hs c hc)] at this
    exact this
  · intro h
    exact keywords_in s (List.contains_iff_mem.1 h)
theorem alnum_not32 {c : UInt8} (h : alnum c = true) : c ≠ 32 := by rintro rfl; revert h; decide
theorem takeWhile_full {p : UInt8 → Bool} : ∀ {s : Str}, (s.takeWhile p).length = s.length → ∀ c ∈ s, p c = true
  | [], _, c, hc => by cases hc
  | a :: s, h, c, hc => by
    rw [List.takeWhile_cons] at h
    by_cases ha : p a = true
    · rw [if_pos ha] at h
      simp at h
      rcases List.mem_cons.1 hc with rfl | hc
      · exact ha
      · exact takeWhile_full h c hc
    · rw [if_neg ha] at h; simp at h
theorem alnumS_fun : alnumS.contains = alnum := funext alnumS_eq
theorem lettersS_fun : lettersS.contains = letter := funext lettersS_eq
theorem digitsS_fun : digitsS.contains = digit := funext digitsS_eq
theorem nameIn_eq (s : Str) : nameIn s = nameP s := by
  cases s with
  | nil => rfl
  | cons c r =>
    unfold nameIn nameP
    dsimp only
    rw [lettersS_eq, alnumS_fun]
    by_cases h : ((c :: r).takeWhile alnum).length = (c :: r).length
    · rw [keyIn_eq fun x hx => alnum_not32 (takeWhile_full h x hx)]
    · rw [decide_eq_false h]; simp

/-! ### Numbers -/
theorem natFrom0 (l : Str) : natOf l = l.foldl (fun n c => 10 * n + (c.toNat - 48)) 0 := rfl
end Bags
