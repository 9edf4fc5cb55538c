/- Walks: keywords, quoted texts, faults. -/
import Derived.Test.YtoephflcjllaaaaGreatDoorA
namespace Go.Proofs.YtoephflcjllaaaaGreatDoor
open Go.RowKit

theorem keywords_eq : Bags.keywords = [[115, 101, 108, 101, 99, 116], [100, 105, 115, 116, 105, 110, 99, 116], [102, 114, 111, 109], [119, 104, 101, 114, 101], [103, 114, 111, 117, 112], [98, 121], [104, 97, 118, 105, 110, 103], [97, 115], [117, 110, 105, 111, 110], [105, 110, 116, 101, 114, 115, 101, 99, 116], [101, 120, 99, 101, 112, 116], [97, 108, 108], [97, 110, 121], [97, 110, 100], [111, 114], [110, 111, 116], [101, 120, 105, 115, 116, 115], [105, 110], [105, 115], [110, 117, 108, 108], [99, 111, 117, 110, 116], [115, 117, 109], [109, 105, 110], [109, 97, 120]] := by decide

set_option maxHeartbeats 1000000 in
theorem keyword_any (s : ByteArray) (w : World) :
    Calls Tryz.prog 73 #[.string s] w fun e w' => e = .returned (.bool (Bags.keywords.contains s.toList)) ∧ w = w' := by
  rw [keywords_eq]
  generalize hr : List.contains _ s.toList = r
  have HR := Lib.hid hr
  clear hr
  go_enter Tryz.func73, Tryz.ntmps73
  go_wp2
  all_goals
    go_ret
    refine ⟨ret_bool ?_, rfl⟩
    rw [← HR.out]
    simp only [List.contains_cons, *]
    first | rfl | simp_all | skip

/-- What is thrown: a fault of kind k, at a place. -/
def thrown (b : Nat) : List PanicEntry := [{ v := .iface 72 (.pointer (some ⟨b, 0, none⟩)), recovered := false }]

set_option maxHeartbeats 400000 in
theorem fault_any (k at_ : Int) (w : World) :
    Calls Tryz.prog 65 #[.int .i64 k, .int .i64 at_] w fun e w' => e = .panicked (thrown w.heap.size) ∧ w.alloc (.cells #[.int .i64 k, .int .i64 at_] 75) = w' := by
  go_enter Tryz.func65, Tryz.ntmps65
  go_wp2
  exact ⟨rfl, rfl, rfl⟩

theorem elem_bytes : Elem Tryz.prog 153 5 1 1 := ⟨Tryz.underlying153, by kernel_rfl, by decide⟩

/-- What quoted answers. -/
def quoRes (s : ByteArray) (i : Nat) : Value :=
  match Bags.quo ((bs s).drop (i + 1)) with
  | some (t, k) => .tuple #[.string (tx t), .int .i64 (i + 1 + k : Nat)]
  | none => .tuple #[.string (tx []), .int .i64 (-1)]
theorem quoRes_of {s : ByteArray} {i k : Nat} {acc : List UInt8} (h : Bags.quo ((bs s).drop (i + 1)) = (Bags.quo ((bs s).drop k)).map fun p => (acc ++ p.1, k - (i + 1) + p.2)) (hk : i + 1 ≤ k)
    {t : List UInt8} {n : Nat} (h2 : Bags.quo ((bs s).drop k) = some (t, n)) : quoRes s i = .tuple #[.string (tx (acc ++ t)), .int .i64 (k + n : Nat)] := by
  unfold quoRes
  rw [h, h2]
  simp only [Option.map_some]
  congr 5
  omega
theorem quoRes_none {s : ByteArray} {i k : Nat} {acc : List UInt8} (h : Bags.quo ((bs s).drop (i + 1)) = (Bags.quo ((bs s).drop k)).map fun p => (acc ++ p.1, k - (i + 1) + p.2))
    (h2 : Bags.quo ((bs s).drop k) = none) : quoRes s i = .tuple #[.string (tx []), .int .i64 (-1)] := by
  unfold quoRes
  rw [h, h2]; rfl
theorem quo_nil {s : ByteArray} {k : Nat} (h : ¬ k < s.size) : Bags.quo ((bs s).drop k) = none := by
  rw [drop_nil s k (by omega)]; rfl
theorem quo_line {s : ByteArray} {k : Nat} (h : k < s.size) (hc : s[k] = 10) : Bags.quo ((bs s).drop k) = none := by
  rw [drop_cons s k h]; unfold Bags.quo; rw [if_pos hc]
theorem quo_byte {s : ByteArray} {k : Nat} (h : k < s.size) (hc : s[k] ≠ 10) (hq : s[k] ≠ 39) : Bags.quo ((bs s).drop k) = (Bags.quo ((bs s).drop (k + 1))).map fun p => ([s[k]] ++ p.1, 1 + p.2) := by
  rw [drop_cons s k h]
  conv => lhs; unfold Bags.quo; rw [if_neg hc, if_neg hq]
  congr 1; funext p; simp [Nat.add_comm]
theorem quo_two {s : ByteArray} {k : Nat} (h : k + 1 < s.size) (hq : s[k] = 39) (hq' : s[k+1] = 39) : Bags.quo ((bs s).drop k) = (Bags.quo ((bs s).drop (k + 2))).map fun p => ([39] ++ p.1, 2 + p.2) := by
  rw [drop_cons s k (by omega), drop_cons s (k+1) h, hq, hq']
  rw [Bags.quo, if_neg (by decide), if_pos rfl]
  congr 1; funext p; simp [Nat.add_comm]
theorem quo_end {s : ByteArray} {k : Nat} (h : k < s.size) (hq : s[k] = 39) (hq' : ∀ h' : k + 1 < s.size, s[k+1] ≠ 39) : Bags.quo ((bs s).drop k) = some ([], 1) := by
  rw [drop_cons s k (by omega), hq]
  unfold Bags.quo
  rw [if_neg (by decide), if_pos rfl]
  split
  · rename_i r' e
    by_cases h1 : k + 1 < s.size
    · rw [drop_cons s (k+1) h1] at e
      injection e with e _
      exact absurd e (hq' h1)
    · rw [drop_nil s (k+1) (by omega)] at e
      cases e
  · rfl
theorem quo_acc {s : ByteArray} {i k j : Nat} {acc l : List UInt8} (h : Bags.quo ((bs s).drop (i + 1)) = (Bags.quo ((bs s).drop k)).map fun p => (acc ++ p.1, k - (i + 1) + p.2)) (hk : i + 1 ≤ k)
    (h2 : Bags.quo ((bs s).drop k) = (Bags.quo ((bs s).drop (k + j))).map fun p => (l ++ p.1, j + p.2)) :
    Bags.quo ((bs s).drop (i + 1)) = (Bags.quo ((bs s).drop (k + j))).map fun p => ((acc ++ l) ++ p.1, k + j - (i + 1) + p.2) := by
  rw [h, h2]
  cases Bags.quo ((bs s).drop (k + j)) with
  | none => rfl
  | some p => simp; omega
theorem u8_int {c d : UInt8} : ((c.toNat : Int) == (d.toNat : Int)) = decide (c = d) := by
  rw [Bool.eq_iff_iff]; simp [UInt8.toNat_inj.symm]; omega

set_option maxRecDepth 100000 in
set_option maxHeartbeats 1000000 in
theorem quoted_any (s : ByteArray) (i : Nat) (w : World) (hs : s.size ≤ 140737488351232) (hi : i < s.size) :
    Calls Tryz.prog 47 #[.string s, .int .i64 i] w fun e w' => e = .returned (quoRes s i) ∧ Below w.heap.size w w' := by
  go_enter Tryz.func47, Tryz.ntmps47
  go_wp2_with fail
  go_loopw [1, 6] (fun v b wr => ∃ k acc, i + 1 ≤ k ∧ k ≤ s.size + 1 ∧ v = .int .i64 (k : Nat) ∧ Bags.quo ((bs s).drop (i + 1)) = ((Bags.quo ((bs s).drop k)).map fun p => (acc ++ p.1, k - (i + 1) + p.2)) ∧
      wr.ownsRow w.heap.size 5 1 b acc.length (acc.map bv) ∧ acc.length ≤ k ∧ Below w.heap.size w wr) (fun v _ _ => s.size + 1 - (intOf v).toNat)
  case atStart => exact ⟨i + 1, [], Nat.le_refl _, by omega, by go_num, by simp, ⟨by simp, .inl ⟨rfl, rfl⟩⟩, by simp, Below.refl _ _⟩
  case round =>
    rename_i wr
    obtain ⟨k, acc, hk, hk2, rfl, hq, hown, hacc, hbl⟩ := hrel
    have HQ := Lib.hid hq
    have HB := Lib.hid hbl
    have hbs := hbl.size
    clear hq hbl
    by_cases hlt : k < s.size
    · by_cases h10 : s[k] = 10
      · have HN := Lib.hid (quoRes_none HQ.out (quo_line hlt h10))
        have t1 : ((s[k].toNat : Int) != 10) = false := by rw [h10]; rfl
        clear h10
        go_wp2_with fail
        go_ret2
        exact ⟨by rw [HN.out]; rfl, HB.out⟩
      · by_cases h39 : s[k] = 39
        · have t1 : ((s[k].toNat : Int) != 10) = true := by rw [h39]; rfl
          have t2 : ((s[k].toNat : Int) != 39) = false := by rw [h39]; rfl
          by_cases hk1 : k + 1 < s.size
          · by_cases h39' : s[k+1] = 39
            · have HQ2 := Lib.hid (quo_acc HQ.out hk (quo_two hk1 h39 h39'))
              have t3 : ((s[k+1].toNat : Int) == 39) = true := by rw [h39']; rfl
              clear h10 h39 h39'
              go_wp2_with (at_builtin; refine wpList_append_one rfl _ _ rfl (base := w.heap.size) elem_bytes rfl hown (cs := #[.int .u8 39]) rfl rfl rfl (by simp [Value.oneCell']) (by unfold maxLen; omega) (by omega) hbs ?_; intro b' w1 hown1 hb1 _ hz1)
              go_roundw
              case rel => exact ⟨k + 2, acc ++ [39], by omega, by omega, by go_num, HQ2.out, by simpa [bv] using hown1, by simp; omega, HB.out.trans hb1⟩
              case measure => simp [intOf]; omega
            · have HN := Lib.hid (quoRes_of HQ.out hk (quo_end hlt h39 (fun _ => h39')))
              have t3 : ((s[k+1].toNat : Int) == 39) = false := by
                have := @u8_int s[k+1] 39
                rw [show ((39 : UInt8).toNat : Int) = 39 from rfl] at this
                rw [this]; simpa using h39'
              have hcv := run_convert_own (P := Tryz.prog) (src := 153) (dst := 9) Tryz.underlying153 Tryz.underlying5 Tryz.underlying9 hown
              clear h10 h39 h39'
              go_wp2_with fail
              go_ret2
              exact ⟨by rw [HN.out]; simp [tx], HB.out⟩
          · have HN := Lib.hid (quoRes_of HQ.out hk (quo_end hlt h39 (fun h => absurd h hk1)))
            have hcv := run_convert_own (P := Tryz.prog) (src := 153) (dst := 9) Tryz.underlying153 Tryz.underlying5 Tryz.underlying9 hown
            clear h10 h39
            go_wp2_with fail
            go_ret2
            exact ⟨by rw [HN.out]; simp [tx], HB.out⟩
        · have HQ2 := Lib.hid (quo_acc HQ.out hk (quo_byte hlt h10 h39))
          have t1 : ((s[k].toNat : Int) != 10) = true := by
            have := @u8_int s[k] 10
            rw [show ((10 : UInt8).toNat : Int) = 10 from rfl] at this
            rw [bne, this]; simpa using h10
          have t2 : ((s[k].toNat : Int) != 39) = true := by
            have := @u8_int s[k] 39
            rw [show ((39 : UInt8).toNat : Int) = 39 from rfl] at this
            rw [bne, this]; simpa using h39
          clear h10 h39
          go_wp2_with (at_builtin; refine wpList_append_one rfl _ _ rfl (base := w.heap.size) elem_bytes rfl hown (cs := #[.int .u8 s[k].toNat]) rfl rfl rfl (by simp [Value.oneCell']) (by unfold maxLen; omega) (by omega) hbs ?_; intro b' w1 hown1 hb1 _ hz1)
          go_roundw
          case rel => exact ⟨k + 1, acc ++ [s[k]], by omega, by omega, by go_num, HQ2.out, by simpa [bv] using hown1, by simp; omega, HB.out.trans hb1⟩
          case measure => simp [intOf]; omega
    · have HN := Lib.hid (quoRes_none HQ.out (quo_nil hlt))
      go_wp2_with fail
      go_ret2
      exact ⟨by rw [HN.out]; rfl, HB.out⟩
end Go.Proofs.YtoephflcjllaaaaGreatDoor
