/- Walk of the reference: quoted. -/
import Derived.Test.YtoephflcjllaaaaGreatDoorRA
namespace Go.Proofs.YtoephflcjllaaaaGreatDoor
open Go.RowKit

/-- What the reference's quoted answers. -/
def quoRef (s : ByteArray) : Value :=
  match Bags.quo ((bs s).drop 1) with
  | some (t, k) => .tuple #[.string (tx t), .int .i64 (1 + k : Nat)]
  | none => .tuple #[.string (tx []), .int .i64 (0 : Nat)]
theorem quoRef_of {s : ByteArray} {k : Nat} {acc : List UInt8} (h : Bags.quo ((bs s).drop 1) = (Bags.quo ((bs s).drop k)).map fun p => (acc ++ p.1, k - 1 + p.2)) (hk : 1 ≤ k)
    {t : List UInt8} {n : Nat} (h2 : Bags.quo ((bs s).drop k) = some (t, n)) : quoRef s = .tuple #[.string (tx (acc ++ t)), .int .i64 (k + n : Nat)] := by
  unfold quoRef
  rw [h, h2]
  simp only [Option.map_some]
  congr 5
  omega
theorem quoRef_none {s : ByteArray} {k : Nat} {acc : List UInt8} (h : Bags.quo ((bs s).drop 1) = (Bags.quo ((bs s).drop k)).map fun p => (acc ++ p.1, k - 1 + p.2))
    (h2 : Bags.quo ((bs s).drop k) = none) : quoRef s = .tuple #[.string (tx []), .int .i64 (0 : Nat)] := by
  unfold quoRef
  rw [h, h2]; rfl
theorem tx_cat (a b : List UInt8) : tx a ++ tx b = tx (a ++ b) := by
  apply bs_inj; rw [cat_tx]; rfl
theorem tx_cat1 (a : List UInt8) (b : ByteArray) : tx a ++ b = tx (a ++ bs b) := by
  conv => lhs; rw [← tx_bs b]
  rw [tx_cat]
theorem extract_tx {s : ByteArray} {k : Nat} (h : k < s.size) : s.extract k (k + 1) = tx [s[k]] := by
  apply bs_inj; rw [extract_one h]; rfl

set_option maxRecDepth 100000 in
set_option maxHeartbeats 1000000 in
theorem quoted_ref (s : ByteArray) (w : World) (hs : s.size ≤ 140737488351232) (h1 : 1 ≤ s.size) :
    Calls Tryz.prog 33 #[.string s] w fun e w' => e = .returned (quoRef s) ∧ w = w' := by
  go_enter Tryz.func33, Tryz.ntmps33
  go_wp2_with fail
  go_loop [4, 5] (fun b v => ∃ k acc, 1 ≤ k ∧ k ≤ s.size ∧ v = .int .i64 (k : Nat) ∧ b = .string (tx acc) ∧ Bags.quo ((bs s).drop 1) = ((Bags.quo ((bs s).drop k)).map fun p => (acc ++ p.1, k - 1 + p.2)) ∧ acc.length ≤ k) (fun _ v => s.size + 1 - (intOf v).toNat)
  case atStart => exact ⟨1, [], Nat.le_refl _, by omega, rfl, rfl, by simp, by simp⟩
  case round =>
    obtain ⟨k, acc, hk, hk2, rfl, rfl, hq, hacc⟩ := hrel
    have HQ := Lib.hid hq
    have hsz : (tx acc).size ≤ 140737488351232 := by rw [tx_size]; omega
    clear hq
    by_cases hlt : k < s.size
    · have hlt' : (k : Int) < (s.size : Int) := by omega
      have hex := extract_tx hlt
      by_cases h10 : s[k] = 10
      · have HN := Lib.hid (quoRef_none HQ.out (quo_line hlt h10))
        have t1 : ((s[k].toNat : Int) != 10) = false := by rw [h10]; rfl
        clear h10
        go_wp2_with fail
        go_ret2
        exact ⟨by rw [HN.out]; rfl, rfl⟩
      · by_cases h39 : s[k] = 39
        · have t1 : ((s[k].toNat : Int) != 10) = true := by rw [h39]; rfl
          have t2 : ((s[k].toNat : Int) != 39) = false := by rw [h39]; rfl
          by_cases hk1 : k + 1 < s.size
          · have hk1' : (k : Int) + 1 < (s.size : Int) := by omega
            by_cases h39' : s[k+1] = 39
            · have HQ2 := Lib.hid (quo_acc (i := 0) HQ.out hk (quo_two hk1 h39 h39'))
              have t3 : ((s[k+1].toNat : Int) == 39) = true := by rw [h39']; rfl
              clear h10 h39 h39' hex
              go_wp2_with fail
              rw [tx_cat1]
              exact ⟨⟨k + 2, acc ++ [39], by omega, by omega, by simp, rfl, HQ2.out, by simp; omega⟩, by simp [intOf]; omega⟩
            · have HN := Lib.hid (quoRef_of HQ.out hk (quo_end hlt h39 (fun _ => h39')))
              have t3 : ((s[k+1].toNat : Int) == 39) = false := by
                have := @u8_int s[k+1] 39
                rw [show ((39 : UInt8).toNat : Int) = 39 from rfl] at this
                rw [this]; simpa using h39'
              clear h10 h39 h39' hex
              go_wp2_with fail
              go_ret2
              exact ⟨by rw [HN.out]; simp [tx], rfl⟩
          · have hk1' : ¬ (k : Int) + 1 < (s.size : Int) := by omega
            have HN := Lib.hid (quoRef_of HQ.out hk (quo_end hlt h39 (fun h => absurd h hk1)))
            clear h10 h39 hex
            go_wp2_with fail
            go_ret2
            exact ⟨by rw [HN.out]; simp [tx], rfl⟩
        · have HQ2 := Lib.hid (quo_acc (i := 0) HQ.out hk (quo_byte hlt h10 h39))
          have t1 : ((s[k].toNat : Int) != 10) = true := by
            have := @u8_int s[k] 10
            rw [show ((10 : UInt8).toNat : Int) = 10 from rfl] at this
            rw [bne, this]; simpa using h10
          have t2 : ((s[k].toNat : Int) != 39) = true := by
            have := @u8_int s[k] 39
            rw [show ((39 : UInt8).toNat : Int) = 39 from rfl] at this
            rw [bne, this]; simpa using h39
          have hsz2 : (tx [s[k]]).size = 1 := rfl
          clear h10 h39
          go_wp2_with fail
          rw [tx_cat]
          exact ⟨⟨k + 1, acc ++ [s[k]], by omega, by omega, by simp, rfl, HQ2.out, by simp; omega⟩, by simp [intOf]; omega⟩
    · have hlt' : ¬ (k : Int) < (s.size : Int) := by omega
      have HN := Lib.hid (quoRef_none HQ.out (quo_nil hlt))
      go_wp2_with fail
      go_ret2
      exact ⟨by rw [HN.out]; rfl, rfl⟩
end Go.Proofs.YtoephflcjllaaaaGreatDoor
