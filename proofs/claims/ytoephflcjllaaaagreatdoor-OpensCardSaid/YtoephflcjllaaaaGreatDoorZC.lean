/- Walks: plain.Open; the law Opens. -/
import Derived.Test.YtoephflcjllaaaaGreatDoorZA
import Derived.Test.YtoephflcjllaaaaGreatDoorZB
namespace Go.Proofs.YtoephflcjllaaaaGreatDoor
open Go.RowKit

theorem ret_ints {a b c d : Int} (h1 : a = b) (h2 : c = d) : Ending.returned (.tuple #[.int .i64 a, .int .i64 c]) = .returned (.tuple #[.int .i64 b, .int .i64 d]) := by rw [h1, h2]

set_option maxRecDepth 100000 in
set_option maxHeartbeats 2000000 in
theorem plainOpen_no (s : ByteArray) (w : World) (hs : s.size ≤ 8192) (hG : MaxIs w) (hv : Vars w) (hd : Bags.dataOf (bs s) = none) :
    Calls Tryz.prog 6 #[.string s] w fun e w' => e = .returned (.tuple #[.int .i64 0, .int .i64 0]) ∧ Below w.heap.size w w' := by
  have hO := open_prog split_said parse_said s w hs hG hv
  unfold OpenPost at hO
  rw [hd] at hO
  have HO := Lib.hid hO
  clear hO hd hG hv
  go_enter Tryz.func6, Tryz.ntmps6
  go_wp2_with fail
  refine HO.out.mono ?_
  rintro e w2 ⟨hb, ⟨_, d, rfl⟩ | ⟨n, b, h, _⟩⟩
  · have HB := Lib.hid hb
    clear hb
    go_wp2_with fail
    refine (parts_nil _).mono ?_
    rintro e w3 ⟨rfl, rfl⟩
    go_wp2_with fail
    go_ret2
    exact ⟨rfl, HB.out⟩
  · cases h

set_option maxRecDepth 100000 in
set_option maxHeartbeats 2000000 in
theorem plainOpen_at (s : ByteArray) (w : World) (n : Nat) (hs : s.size ≤ 8192) (hG : MaxIs w) (hv : Vars w) (hE : w.cell? ⟨0, 0, none⟩ = some (rty 36)) (hd : Bags.dataOf (bs s) = some n) :
    Calls Tryz.prog 6 #[.string s] w fun e w' => e = .returned (.tuple #[.int .i64 1, .int .i64 n]) ∧ Below w.heap.size w w' := by
  have hO := open_prog split_said parse_said s w hs hG hv
  unfold OpenPost at hO
  rw [hd] at hO
  have HO := Lib.hid hO
  have HE := Lib.hid hE
  have hv0 := hv.size
  clear hO hd hG hv hE
  go_enter Tryz.func6, Tryz.ntmps6
  go_wp2_with fail
  refine HO.out.mono ?_
  rintro e w2 ⟨hb, ⟨h, _⟩ | ⟨n', b, h, rfl, hb2, hB⟩⟩
  · cases h
  · injection h with h
    subst h
    have HP := Lib.hid (parts_any b 1 n (by unfold Kinds; omega) w2 hB ((hb.cell (p := ⟨0, 0, none⟩) (by show 0 < w.heap.size; omega)).trans HE.out))
    have HB := Lib.hid hb
    have hsz := hb.size
    clear hb hB
    go_wp2_with fail
    refine HP.out.mono ?_
    rintro e w3 ⟨rfl, hb3⟩
    have HB3 := Lib.hid hb3
    clear hb3
    go_wp2_with fail
    go_ret2
    exact ⟨rfl, HB.out.trans (HB3.out.mono hsz)⟩

set_option maxRecDepth 100000 in
set_option maxHeartbeats 2000000 in
theorem opens_any (s : ByteArray) (w : World) (hG : MaxIs w) (hv : Vars w) (hE : w.cell? ⟨0, 0, none⟩ = some (rty 36)) (hs : s.size ≤ 9223372036854775807) :
    Calls Tryz.prog 3 #[.string s] w fun e w' => e = .returned (.bool true) ∧ Below w.heap.size w w' := by
  by_cases hlong : 8192 < s.size
  · have hlong' : (8192 : Int) < (s.size : Int) := by omega
    clear hG hv hE
    go_enter Tryz.func3, Tryz.ntmps3
    go_wp2_with fail
    go_ret
    exact ⟨rfl, Below.refl _ _⟩
  · have hlong' : ¬ (8192 : Int) < (s.size : Int) := by omega
    have HDA := Lib.hid (fun W => data_ref s W (by omega))
    unfold DataPost at HDA
    cases hd : Bags.dataOf (bs s) with
    | none =>
      rw [hd] at HDA
      have HO := Lib.hid (plainOpen_no s w (by omega) hG hv hd)
      clear hG hv hE hd
      go_enter Tryz.func3, Tryz.ntmps3
      go_wp2_with fail
      refine HO.out.mono ?_
      rintro e w2 ⟨rfl, hb2⟩
      have HB2 := Lib.hid hb2
      have hsz := hb2.size
      clear hb2
      go_wp2_with fail
      refine (HDA.out _).mono ?_
      rintro e w3 ⟨hb3, v, r, rfl, hr⟩
      obtain rfl : r = -1 := hr
      have HB3 := Lib.hid hb3
      clear hb3
      go_wp2_with fail
      go_ret
      exact ⟨rfl, HB2.out.trans (HB3.out.mono hsz)⟩
    | some n =>
      rw [hd] at HDA
      have HO := Lib.hid (plainOpen_at s w n (by omega) hG hv hE hd)
      clear hG hv hE hd
      go_enter Tryz.func3, Tryz.ntmps3
      go_wp2_with fail
      refine HO.out.mono ?_
      rintro e w2 ⟨rfl, hb2⟩
      have HB2 := Lib.hid hb2
      have hsz := hb2.size
      clear hb2
      go_wp2_with fail
      refine (HDA.out _).mono ?_
      rintro e w3 ⟨hb3, v, r, rfl, hr⟩
      obtain rfl : r = (n : Int) := hr
      have HB3 := Lib.hid hb3
      clear hb3
      have hn0 : ¬ (n : Int) < 0 := by omega
      go_wp2_with fail
      go_ret
      exact ⟨rfl, HB2.out.trans (HB3.out.mono hsz)⟩
end Go.Proofs.YtoephflcjllaaaaGreatDoor
