/- Walk of the reference: quoted. -/
import Derived.Test.YtoephflcjllaaaaGreatDoorJ23
namespace Go.Proofs.YtoephflcjllaaaaGreatDoor
open Go.RowKit

/-- What the reference's quoted answers. -/
def quoRef (s : ByteArray) : Value :=
  match Bags.quo ((bs s).drop 1) with
  | some (t, k) => .tuple #[.string (tx t), .int .i64 (1 + k : Nat)]
  | none => .tuple #[.string (tx []), .int .i64 (0 : Nat)]
theorem quoRef_of {s : ByteArray} {k : Nat} {acc : List UInt8} (h : Bags.quo ((bs s).drop 1) = (Bags.quo ((bs s).drop k)).map fun p => (acc ++ p.1, k - 1 + p.2)) (hk : 1 ≤ k)
    {t : List UInt8} {n : Nat} (h2 : Bags.quo ((bs s).drop k) = some (t, n)) : quoRef s = .tuple #[.string (tx (acc ++ t)), .int .i64 (k + n : Nat)] := by
  unfold quoRef
  rw [h, h2]
  simp only [Option.map_some]
  congr 5
  omega
theorem quoRef_none {s : ByteArray} {k : Nat} {acc : List UInt8} (h : Bags.quo ((bs s).drop 1) = (Bags.quo ((bs s).drop k)).map fun p => (acc ++ p.1, k - 1 + p.2))
    (h2 : Bags.quo ((bs s).drop k) = none) : quoRef s = .tuple #[.string (tx []), .int .i64 (0 : Nat)] := by
  unfold quoRef
  rw [h, h2]; rfl
theorem tx_cat (a b : List UInt8) : tx a ++ tx b = tx (a ++ b) := by
  apply bs_inj; rw [cat_tx]; rfl
theorem tx_cat1 (a : List UInt8) (b : ByteArray) : tx a ++ b = tx (a ++ bs b) := by
  conv => lhs; rw [← tx_bs b]
  rw [tx_cat]
theorem extract_tx {s : ByteArray} {k : Nat} (h : k < s.size) : s.extract k (k + 1) = tx [s[k]] := by
  apply bs_inj; rw [extract_one h]; rfl

set_option maxRecDepth 100000 in
set_option maxHeartbeats 1000000 in
theorem quoted_ref (s : ByteArray) (w : World) (hs : s.size ≤ 140737488351232) (h1 : 1 ≤ s.size) :
    Calls Tryz.prog 33 #[.string s] w fun e w' => e = .returned (quoRef s) ∧ w = w' := by
  go_enter Tryz.func33, Tryz.ntmps33
  go_wp2_with fail
  go_loop [4, 5] (fun b v => ∃ k acc, 1 ≤ k ∧ k ≤ s.size ∧ v = .int .i64 (k : Nat) ∧ b = .string (tx acc) ∧ Bags.quo ((bs s).drop 1) = ((Bags.quo ((bs s).drop k)).map fun p => (acc ++ p.1, k - 1 + p.2)) ∧ acc.length ≤ k) (fun _ v => s.size + 1 - (intOf v).toNat)
  case atStart => exact ⟨1, [], Nat.le_refl _, by omega, rfl, rfl, by simp, by simp⟩
  case round =>
    obtain ⟨k, acc, hk, hk2, rfl, rfl, hq, hacc⟩ := hrel
    have HQ := Lib.hid hq
    have hsz : (tx acc).size ≤ 140737488351232 := by rw [tx_size]; omega
    clear hq
    by_cases hlt : k < s.size
    · have hlt' : (k : Int) < (s.size : Int) := by omega
      have hex := extract_tx hlt
      by_cases h10 : s[k] = 10
      · have HN := Lib.hid (quoRef_none HQ.out (quo_line hlt h10))
        have t1 : ((s[k].toNat : Int) != 10) = false := by rw [h10]; rfl
        clear h10
        go_wp2_with fail
        go_ret2
        exact ⟨by rw [HN.out]; rfl, rfl⟩
      · by_cases h39 : s[k] = 39
        · have t1 : ((s[k].toNat : Int) != 10) = true := by rw [h39]; rfl
          have t2 : ((s[k].toNat : Int) != 39) = false := by rw [h39]; rfl
          by_cases hk1 : k + 1 < s.size
          · have hk1' : (k : Int) + 1 < (s.size : Int) := by omega
            by_cases h39' : s[k+1] = 39
            · have HQ2 := Lib.hid (quo_acc (i := 0) HQ.out hk (quo_two hk1 h39 h39'))
              have t3 : ((s[k+1].toNat : Int) == 39) = true := by rw [h39']; rfl
              clear h10 h39 h39' hex
              go_wp2_with fail
              rw [tx_cat1]
              exact ⟨⟨k + 2, acc ++ [39], by omega, by omega, by simp, rfl, HQ2.out, by simp; omega⟩, by simp [intOf]; omega⟩
            · have HN := Lib.hid (quoRef_of HQ.out hk (quo_end hlt h39 (fun _ => h39')))
              have t3 : ((s[k+1].toNat : Int) == 39) = false := by
                have := @u8_int s[k+1] 39
                rw [show ((39 : UInt8).toNat : Int) = 39 from rfl] at this
                rw [this]; simpa using h39'
              clear h10 h39 h39' hex
              go_wp2_with fail
              go_ret2
              exact ⟨by rw [HN.out]; simp [tx], rfl⟩
          · have hk1' : ¬ (k : Int) + 1 < (s.size : Int) := by omega
            have HN := Lib.hid (quoRef_of HQ.out hk (quo_end hlt h39 (fun h => absurd h hk1)))
            clear h10 h39 hex
            go_wp2_with fail
            go_ret2
            exact ⟨by rw [HN.out]; simp [tx], rfl⟩
        · have HQ2 := Lib.hid (quo_acc (i := 0) HQ.out hk (quo_byte hlt h10 h39))
          have t1 : ((s[k].toNat : Int) != 10) = true := by
            have := @u8_int s[k] 10
            rw [show ((10 : UInt8).toNat : Int) = 10 from rfl] at this
            rw [bne, this]; simpa using h10
          have t2 : ((s[k].toNat : Int) != 39) = true := by
            have := @u8_int s[k] 39
            rw [show ((39 : UInt8).toNat : Int) = 39 from rfl] at this
            rw [bne, this]; simpa using h39
          have hsz2 : (tx [s[k]]).size = 1 := rfl
          clear h10 h39
          go_wp2_with fail
          rw [tx_cat]
          exact ⟨⟨k + 1, acc ++ [s[k]], by omega, by omega, by simp, rfl, HQ2.out, by simp; omega⟩, by simp [intOf]; omega⟩
    · have hlt' : ¬ (k : Int) < (s.size : Int) := by omega
      have HN := Lib.hid (quoRef_none HQ.out (quo_nil hlt))
      go_wp2_with fail
      go_ret2
      exact ⟨by rw [HN.out]; rfl, rfl⟩
end Go.Proofs.YtoephflcjllaaaaGreatDoor
/- Walks: names, kinds, values, on both sides. -/
namespace Go.Proofs.YtoephflcjllaaaaGreatDoor
open Go.RowKit

/-! ### Numbers -/
theorem uintM_digits (M : Nat) : ∀ (l : List UInt8) (acc u : Nat), Lib.parseUintM M acc l = .ok u → ∀ c ∈ l, Bags.digit c = true
  | [], _, _, _, c, hc => by cases hc
  | a :: r, acc, u, h, c, hc => by
    unfold Lib.parseUintM at h
    split at h
    · rename_i ha
      split at h
      · cases h
      · split at h
        · cases h
        · rcases List.mem_cons.1 hc with rfl | hc
          · rw [digit_eq]; simp; omega
          · exact uintM_digits M r _ u h c hc
    · cases h
theorem uint_ok {l : List UInt8} {u : Nat} : Lib.parseUintB 64 l = .ok u ↔ (l ≠ [] ∧ (∀ c ∈ l, Bags.digit c = true) ∧ Bags.natOf l < 2 ^ 64 ∧ u = Bags.natOf l) := by
  unfold Lib.parseUintB
  by_cases hl : l = []
  · rw [if_pos hl]; exact ⟨(fun h => by cases h), (fun h => absurd hl h.1)⟩
  · rw [if_neg hl]
    constructor
    · intro h
      have hd := uintM_digits _ _ _ _ h
      rw [parseUintM_digits l 0 hd (by decide)] at h
      unfold okBelow at h
      split at h
      · rename_i hlt
        injection h with h
        exact ⟨hl, hd, hlt, h.symm⟩
      · cases h
    · rintro ⟨_, hd, hlt, rfl⟩
      rw [parseUintM_digits l 0 hd (by decide)]
      unfold okBelow
      exact if_pos hlt
theorem signless_ok {C : Nat} {x : Lib.NumEnd Nat} : (∃ v, Lib.signlessC C x = .ok v) ↔ ∃ u, x = .ok u ∧ u < C := by
  cases x with
  | ok u => simp [Lib.signlessC]; split <;> simp <;> omega
  | _ => simp [Lib.signlessC]
theorem signed_ok {C : Nat} {x : Lib.NumEnd Nat} : (∃ v, Lib.signedC C x = .ok v) ↔ ∃ u, x = .ok u ∧ u ≤ C := by
  cases x with
  | ok u => simp [Lib.signedC]; split <;> simp <;> omega
  | _ => simp [Lib.signedC]
theorem int_ok (s : List UInt8) (h43 : s.head? ≠ some 43) : (∃ v, Lib.parseIntB 64 s = .ok v) ↔ Bags.intOK s = true := by
  cases s with
  | nil => simp [Lib.parseIntB, Bags.intOK]
  | cons c r =>
    have h43' : c.toNat ≠ 43 := fun e => h43 (by simp; apply UInt8.toNat_inj.1; simpa using e)
    by_cases hc : c = 45
    · subst hc
      rw [Lib.parseIntB_minus, signed_ok]
      unfold Bags.intOK
      simp only [uint_ok]
      simp
      constructor
      · rintro ⟨u, ⟨h1, h2, h3, rfl⟩, h4⟩; exact ⟨⟨h1, h2⟩, by omega⟩
      · rintro ⟨⟨h1, h2⟩, h3⟩; exact ⟨_, ⟨h1, h2, by omega, rfl⟩, by omega⟩
    · have h45 : c.toNat ≠ 45 := fun e => hc (UInt8.toNat_inj.1 (by simpa using e))
      rw [Lib.parseIntB_plain 64 c r h43' h45, signless_ok]
      have hn : (((c :: r).head? == some 45) : Bool) = false := by simpa using hc
      unfold Bags.intOK
      rw [hn]
      simp only [uint_ok]
      simp
      constructor
      · rintro ⟨u, ⟨⟨h1, h2⟩, h3, rfl⟩, h4⟩; exact ⟨⟨h1, h2⟩, by omega⟩
      · rintro ⟨⟨h1, h2⟩, h3⟩; exact ⟨_, ⟨⟨h1, h2⟩, by omega, rfl⟩, by omega⟩

/-! ### The program: kindOf, isName, value -/
theorem str_int : Bags.str "int" = [105, 110, 116] := by decide
theorem str_text : Bags.str "text" = [116, 101, 120, 116] := by decide
theorem str_null : Bags.str "null" = [110, 117, 108, 108] := by decide
def kindNum (s : Bags.Str) : Int := if s = Bags.str "int" then 1 else if s = Bags.str "text" then 2 else 0

set_option maxHeartbeats 400000 in
theorem kindOf_any (s : ByteArray) (w : World) : Calls Tryz.prog 49 #[.string s] w fun e w' => e = .returned (.int .i64 (kindNum (bs s))) ∧ w = w' := by
  have hk : kindNum (bs s) = if (s.toList == [105, 110, 116]) then 1 else if (s.toList == [116, 101, 120, 116]) then 2 else 0 := by
    unfold kindNum
    rw [bs_toList, str_int, str_text]
    simp only [beq_iff_eq]
  rw [hk]
  clear hk
  cases h1 : (s.toList == [105, 110, 116])
  · cases h2 : (s.toList == [116, 101, 120, 116])
    · go_enter Tryz.func49, Tryz.ntmps49
      go_wp2_with fail
      go_ret
      exact ⟨rfl, rfl⟩
    · go_enter Tryz.func49, Tryz.ntmps49
      go_wp2_with fail
      go_ret
      exact ⟨rfl, rfl⟩
  · go_enter Tryz.func49, Tryz.ntmps49
    go_wp2_with fail
    go_ret
    exact ⟨rfl, rfl⟩

set_option maxRecDepth 100000 in
set_option maxHeartbeats 1000000 in
theorem isName_prog (s : ByteArray) (w : World) (hs : s.size ≤ 140737488351232) : Calls Tryz.prog 48 #[.string s] w fun e w' => e = .returned (.bool (Bags.nameP (bs s))) ∧ w = w' := by
  by_cases h0 : s.size = 0
  · have e0 : bs s = [] := bs_empty h0
    have ht : s.toList.isEmpty = true := by rw [bs_toList, e0]; rfl
    rw [e0]
    clear h0 e0
    go_enter Tryz.func48, Tryz.ntmps48
    go_wp2_with fail
    go_ret
    exact ⟨rfl, rfl⟩
  · have ht : s.toList.isEmpty = false := by rw [bs_toList, bs_cons (by omega)]; rfl
    have h00 : 0 < s.size := by omega
    have hr : Bags.nameP (bs s) = (Bags.letter s[0] && decide (spanTo Bags.alnum s 0 = s.size) && !Bags.keywords.contains s.toList) := by
      have hsp : spanTo Bags.alnum s 0 = ((bs s).takeWhile Bags.alnum).length := by unfold spanTo; simp
      rw [hsp, bs_toList, ← bs_length]
      have hc := bs_cons (s := s) h00
      generalize bs s = l at *
      rw [hc]
      rfl
    have HL := Lib.hid (letter_any s[0] w)
    have HS := Lib.hid (span_any 71 #[] Bags.alnum s 0 w (by unfold maxLen; omega) (by omega) Tryz.call71 (fun c => alnum_any_isName c w))
    have HK := Lib.hid (keyword_any s w)
    rw [hr]
    generalize Bags.letter s[0] = B1 at *
    generalize spanTo Bags.alnum s 0 = m at *
    generalize Bags.keywords.contains s.toList = B2 at *
    clear hr h0
    cases B1
    · go_enter Tryz.func48, Tryz.ntmps48
      go_wp2_with fail
      refine HL.out.mono ?_
      rintro e w' ⟨rfl, rfl⟩
      go_wp2_with fail
      go_ret
      exact ⟨rfl, rfl⟩
    · by_cases hm : m = s.size
      · subst hm
        go_enter Tryz.func48, Tryz.ntmps48
        go_wp2_with fail
        refine HL.out.mono ?_
        rintro e w' ⟨rfl, rfl⟩
        go_wp2_with fail
        refine HS.out.mono ?_
        rintro e w' ⟨rfl, rfl⟩
        go_wp2_with fail
        refine HK.out.mono ?_
        rintro e w' ⟨rfl, rfl⟩
        go_wp2_with fail
        go_ret
        exact ⟨by simp, rfl⟩
      · have hm' : ((m : Int) == s.size) = false := by simp; omega
        go_enter Tryz.func48, Tryz.ntmps48
        go_wp2_with fail
        refine HL.out.mono ?_
        rintro e w' ⟨rfl, rfl⟩
        go_wp2_with fail
        refine HS.out.mono ?_
        rintro e w' ⟨rfl, rfl⟩
        go_wp2_with fail
        go_ret
        exact ⟨by simp [hm], rfl⟩
end Go.Proofs.YtoephflcjllaaaaGreatDoor
