/- Walk of the reference: word. -/
import Derived.Test.YtoephflcjllaaaaGreatDoorJ25
import Derived.Test.YtoephflcjllaaaaGreatDoorJ04
import Derived.Test.YtoephflcjllaaaaGreatDoorJ30
namespace Go.Proofs.YtoephflcjllaaaaGreatDoor
open Go.RowKit

/-- How the reference spells a word's sort. -/
def sortB : Nat → ByteArray
  | 1 => ⟨#[107, 101, 121]⟩
  | 2 => ⟨#[110, 97, 109, 101]⟩
  | 3 => ⟨#[110, 117, 109]⟩
  | 4 => ⟨#[116, 101, 120, 116]⟩
  | 5 => ⟨#[115, 105, 103, 110]⟩
  | _ => ⟨#[]⟩
/-- A word, as the reference holds it. -/
def wordR (x : Bags.W) : List Value := [.string (sortB x.sort), .string (tx x.text), .int .i64 x.num]
/-- What word answers. -/
def WordPost (s : ByteArray) (w : World) (e : Ending) (w' : World) : Prop :=
  Below w.heap.size w w' ∧ ((∃ a b c, Bags.lexOne (bs s) = none ∧ e = .returned (.tuple #[.agg #[.string a, .string b, .int .i64 c], .int .i64 0])) ∨
    ∃ (x : Bags.W) (n : Nat), Bags.lexOne (bs s) = some (some x, n) ∧ e = .returned (.tuple #[.agg #[.string (sortB x.sort), .string (tx x.text), .int .i64 x.num], .int .i64 n]))
theorem take_len (p : UInt8 → Bool) (l : List UInt8) : l.take (l.takeWhile p).length = l.takeWhile p :=
  (List.prefix_iff_eq_take.1 (List.takeWhile_prefix p)).symm
theorem extract_while (p : UInt8 → Bool) (s : ByteArray) : bs (s.extract 0 ((bs s).takeWhile p).length) = (bs s).takeWhile p := by
  rw [extract_eq, List.drop_zero, Nat.sub_zero, take_len]
theorem takeWhile_none {p : UInt8 → Bool} {l : List UInt8} {c : UInt8} {r : List UInt8} (h : l = c :: r) (hp : p c = false) : (l.takeWhile p).length = 0 := by
  rw [h, List.takeWhile_cons, hp]; rfl
theorem takeWhile_some {p : UInt8 → Bool} {l : List UInt8} {c : UInt8} {r : List UInt8} (h : l = c :: r) (hp : p c = true) : 1 ≤ (l.takeWhile p).length := by
  rw [h, List.takeWhile_cons, hp]; simp
theorem takeWhile_all' {p : UInt8 → Bool} : ∀ {l : List UInt8}, ∀ c ∈ l.takeWhile p, p c = true := by
  intro l c hc
  exact List.all_eq_true.1 (List.all_takeWhile (p := p) (l := l)) c hc

set_option maxRecDepth 100000 in
set_option maxHeartbeats 4000000 in
theorem word_ref (s : ByteArray) (w : World) (hs : s.size ≤ 400) (h0 : 0 < s.size) (hb : ¬ (s[0] = 32 ∨ s[0] = 9 ∨ s[0] = 10)) (hr : ¬ (s[0] = 45 ∧ ((bs s).drop 1).head? = some 45)) :
    Calls Tryz.prog 41 #[.string s] w (WordPost s w) := by
  have h0' : (1 : Int) ≤ (s.size : Int) := by omega
  have hc := bs_cons h0
  have hRA := fun W => run_any s (tx Bags.alnumS) W (by omega) (by decide)
  rw [bs_tx, Bags.alnumS_fun] at hRA
  have hRD := fun W => run_any s (tx Bags.digitsS) W (by omega) (by decide)
  rw [bs_tx, Bags.digitsS_fun] at hRD
  cases hdig : Bags.digit s[0] with
  | true =>
    have hD1 := takeWhile_some hc hdig
    have hDl : ((bs s).takeWhile Bags.digit).length ≤ s.size := by rw [← bs_length]; exact Bags.takeWhile_len _ _
    have hE := extract_while Bags.digit s
    have hx := lx_digit (r := (bs s).drop 1) hdig
    rw [← hc] at hx
    have hN := fun W => number_ref (s.extract 0 ((bs s).takeWhile Bags.digit).length) false W (by rw [ByteArray.size_extract]; omega) (by rw [hE]; exact takeWhile_all')
    rw [hE] at hN
    simp only [Bool.false_eq_true, if_false, Nat.add_zero] at hN
    generalize Bags.natOf ((bs s).takeWhile Bags.digit) = V at *
    generalize ((bs s).takeWhile Bags.digit).length = D at *
    generalize ((bs s).takeWhile Bags.alnum).length = A at *
    have hD1' : (0 : Int) < (D : Int) := by omega
    have hDl' : (D : Int) ≤ (s.size : Int) := by omega
    have HX := Lib.hid hx
    have HN := Lib.hid hN
    have HA := Lib.hid hRA
    have HD := Lib.hid hRD
    clear hx hN hE hRA hRD hdig hc hb hr
    by_cases hV : V < 2 ^ 63
    · have hV' : decide (V < 2 ^ 63) = true := decide_eq_true hV
      have HY := Lib.hid (HX.out.trans (if_pos hV))
      have HV := Lib.hid hV
      rw [hV'] at HN
      clear hV hV'
      go_enter Tryz.func41, Tryz.ntmps41
      go_wp2_with fail
      refine (HA.out _).mono ?_
      rintro e w' ⟨rfl, rfl⟩
      go_wp2_with fail
      refine (HD.out _).mono ?_
      rintro e w' ⟨rfl, rfl⟩
      go_wp2_with fail
      refine (HN.out _).mono ?_
      rintro e w' ⟨⟨v, rfl, hv⟩, rfl⟩
      obtain rfl := hv HV.out
      go_wp2_with fail
      exact bodyPost_ret (results_cell_two rfl _ _ _ 98 _ (0, 0) _ rfl (Blk.made _ _ _) rfl rfl rfl) rfl ⟨(Below.refl _ _).alloc (Nat.le_refl _) _, .inr ⟨_, _, HY.out, rfl⟩⟩
    · have hV' : decide (V < 2 ^ 63) = false := decide_eq_false hV
      have HY := Lib.hid (HX.out.trans (if_neg hV))
      rw [hV'] at HN
      clear hV hV'
      go_enter Tryz.func41, Tryz.ntmps41
      go_wp2_with fail
      refine (HA.out _).mono ?_
      rintro e w' ⟨rfl, rfl⟩
      go_wp2_with fail
      refine (HD.out _).mono ?_
      rintro e w' ⟨rfl, rfl⟩
      go_wp2_with fail
      refine (HN.out _).mono ?_
      rintro e w' ⟨⟨v, rfl, hv⟩, rfl⟩
      clear hv
      go_wp2_with fail
      exact bodyPost_ret (results_cell_two rfl _ _ _ 98 _ (0, 0) _ rfl (Blk.made _ _ _) rfl rfl rfl) rfl ⟨(Below.refl _ _).alloc (Nat.le_refl _) _, .inl ⟨_, _, _, HY.out, rfl⟩⟩
  | false =>
    have hD0 := takeWhile_none hc hdig
    rw [hD0] at hRD
    cases hlet : Bags.letter s[0] with
    | true =>
      have hA1 := takeWhile_some (p := Bags.alnum) hc (by simp [Bags.alnum, hlet])
      have hAl : ((bs s).takeWhile Bags.alnum).length ≤ s.size := by rw [← bs_length]; exact Bags.takeWhile_len _ _
      have hE := extract_while Bags.alnum s
      have hx := lx_letter (r := (bs s).drop 1) hlet
      rw [← hc, ← hE] at hx
      have hK := fun W => isKey_any (s.extract 0 ((bs s).takeWhile Bags.alnum).length) W (by rw [ByteArray.size_extract]; omega)
      rw [Bags.keyIn_eq (by rw [hE]; exact fun c h => Bags.alnum_not32 (takeWhile_all' c h))] at hK
      rw [hE] at hx
      have htx : tx ((bs s).takeWhile Bags.alnum) = s.extract 0 ((bs s).takeWhile Bags.alnum).length := by rw [← hE, tx_bs, hE]
      rw [hE] at hK
      have HTX := Lib.hid htx
      generalize Bags.keywords.contains ((bs s).takeWhile Bags.alnum) = K at *
      generalize hT : (bs s).takeWhile Bags.alnum = T at *
      generalize T.length = A at *
      have hA1' : (0 : Int) < (A : Int) := by omega
      have hAl' : (A : Int) ≤ (s.size : Int) := by omega
      have HX := Lib.hid hx
      have HK := Lib.hid hK
      have HA := Lib.hid hRA
      have HD := Lib.hid hRD
      clear hx hK hE hRA hRD hdig hc hb hr hD0 htx hT
      cases K
      all_goals
        go_enter Tryz.func41, Tryz.ntmps41
        go_wp2_with fail
        refine (HA.out _).mono ?_
        rintro e w' ⟨rfl, rfl⟩
        go_wp2_with fail
        refine (HD.out _).mono ?_
        rintro e w' ⟨rfl, rfl⟩
        go_wp2_with fail
        refine (HK.out _).mono ?_
        rintro e w' ⟨rfl, rfl⟩
        go_wp2_with fail
        exact bodyPost_ret (results_cell_two rfl _ _ _ 98 _ (0, 0) _ rfl (Blk.made _ _ _) rfl rfl rfl) rfl ⟨(Below.refl _ _).alloc (Nat.le_refl _) _, .inr ⟨_, _, HX.out, by simp [sortB, HTX.out]⟩⟩
    | false =>
      have hA0 := takeWhile_none (p := Bags.alnum) hc (by simp [Bags.alnum, hlet, hdig])
      rw [hA0] at hRA
      have HA := Lib.hid hRA
      have HD := Lib.hid hRD
      clear hRA hRD hA0 hD0
      by_cases hq : s[0] = 39
      · have t1 := tst_t s[0] (n := 39) 39 rfl hq
        have hQ := fun W => quoted_ref s W (by omega) (by omega)
        have hx : Bags.lexOne (bs s) = (Bags.quo ((bs s).drop 1)).map fun p => (some ⟨4, p.1, 0⟩, p.2 + 1) := by
          conv => lhs; rw [hc, hq]
          exact lx_quote
        unfold quoRef at hQ
        cases hqq : Bags.quo ((bs s).drop 1) with
        | none =>
          rw [hqq] at hQ hx
          have HX := Lib.hid hx
          have HQ := Lib.hid hQ
          clear hx hQ hqq hq hc hb hr hlet hdig
          go_enter Tryz.func41, Tryz.ntmps41
          go_wp2_with fail
          refine (HA.out _).mono ?_
          rintro e w' ⟨rfl, rfl⟩
          go_wp2_with fail
          refine (HD.out _).mono ?_
          rintro e w' ⟨rfl, rfl⟩
          go_wp2_with fail
          refine (HQ.out _).mono ?_
          rintro e w' ⟨rfl, rfl⟩
          go_wp2_with fail
          exact bodyPost_ret (results_cell_two rfl _ _ _ 98 _ (0, 0) _ rfl (Blk.made _ _ _) rfl rfl rfl) rfl ⟨(Below.refl _ _).alloc (Nat.le_refl _) _, .inl ⟨_, _, _, HX.out, rfl⟩⟩
        | some p =>
          obtain ⟨t, k⟩ := p
          rw [hqq] at hQ hx
          have HX := Lib.hid hx
          have HQ := Lib.hid hQ
          clear hx hQ hqq hq hc hb hr hlet hdig
          go_enter Tryz.func41, Tryz.ntmps41
          go_wp2_with fail
          refine (HA.out _).mono ?_
          rintro e w' ⟨rfl, rfl⟩
          go_wp2_with fail
          refine (HD.out _).mono ?_
          rintro e w' ⟨rfl, rfl⟩
          go_wp2_with fail
          refine (HQ.out _).mono ?_
          rintro e w' ⟨rfl, rfl⟩
          go_wp2_with fail
          exact bodyPost_ret (results_cell_two rfl _ _ _ 98 _ (0, 0) _ rfl (Blk.made _ _ _) rfl rfl rfl) rfl ⟨(Below.refl _ _).alloc (Nat.le_refl _) _, .inr ⟨_, _, HX.out, by simp [sortB]; omega⟩⟩
      · have t1 := tst_f s[0] (n := 39) 39 rfl hq
        have hsg : Sign s[0] ((bs s).drop 1) := ⟨hb, hr, by simp [hlet], by simp [hdig], hq⟩
        have hIn := fun W => in_any (s.extract 0 1) (tx Bags.ones) W (by decide) (by rw [ByteArray.size_extract]; omega)
        have he1 := extract_one h0
        rw [bs_tx, he1, Bags.isIn_one] at hIn
        have htw : ∀ t, ((s.extract 0 2).toList == t) = decide ((bs s).take 2 = t) := fun t => by
          rw [bs_toList, extract_eq, List.drop_zero, Bool.eq_iff_iff]; simp
        have hlen2 : ∀ t : Bags.Str, t.length = 2 → (bs s).take 2 = t → (1 : Int) < (s.size : Int) := fun t ht e => by
          have := congrArg List.length e
          rw [List.length_take, bs_length] at this; omega
        have HTW := Lib.hid htw
        have htake : bs (s.extract 0 2) = (bs s).take 2 := by rw [extract_eq, List.drop_zero]
        have HT2 := Lib.hid (show tx ((bs s).take 2) = s.extract 0 2 by rw [← htake, tx_bs])
        have HT1 := Lib.hid (show tx [s[0]] = s.extract 0 1 by rw [← he1, tx_bs])
        have HIN := Lib.hid hIn
        clear hIn he1 htw htake
        by_cases h2 : (bs s).take 2 = [60, 62] ∨ (bs s).take 2 = [60, 61] ∨ (bs s).take 2 = [62, 61]
        · have hgt : (1 : Int) < (s.size : Int) := by
            rcases h2 with h | h | h
            all_goals exact hlen2 _ rfl h
          have hgt2 : (2 : Int) ≤ (s.size : Int) := by omega
          have HX := Lib.hid (show Bags.lexOne (bs s) = some (some ⟨5, (bs s).take 2, 0⟩, 2) by
            have := lx_two hsg (r := (bs s).drop 1) (by
              rw [← hc]
              rcases h2 with h | h | h <;> rw [h] <;> decide)
            rwa [← hc] at this)
          have hcase : ∃ B1 B2 B3 : Bool, ((s.extract 0 2).toList == [60, 62]) = B1 ∧ ((s.extract 0 2).toList == [60, 61]) = B2 ∧ ((s.extract 0 2).toList == [62, 61]) = B3 ∧ (B1 || (B2 || B3)) = true := by
            refine ⟨_, _, _, rfl, rfl, rfl, ?_⟩
            rw [HTW.out, HTW.out, HTW.out]
            rcases h2 with h | h | h <;> simp [h]
          obtain ⟨B1, B2, B3, e1, e2, e3, hor⟩ := hcase
          clear hlen2 h2 hsg hc hb hr hlet hdig hq
          cases B1 <;> cases B2 <;> cases B3 <;> first | (exfalso; revert hor; decide) | skip
          all_goals
            clear hor
            go_enter Tryz.func41, Tryz.ntmps41
            go_wp2_with fail
            refine (HA.out _).mono ?_
            rintro e w' ⟨rfl, rfl⟩
            go_wp2_with fail
            refine (HD.out _).mono ?_
            rintro e w' ⟨rfl, rfl⟩
            go_wp2_with fail
            exact bodyPost_ret (results_cell_two rfl _ _ _ 98 _ (0, 0) _ rfl (Blk.made _ _ _) rfl rfl rfl) rfl ⟨(Below.refl _ _).alloc (Nat.le_refl _) _, .inr ⟨_, _, HX.out, by simp [sortB, HT2.out]⟩⟩
        · have hno2 : Bags.two.contains ((s[0] :: (bs s).drop 1).take 2) = false := by
            rw [← hc, Bool.eq_false_iff, ne_eq, List.contains_iff_mem]
            intro hm
            have : Bags.two = [[60, 62], [60, 61], [62, 61]] := by decide
            rw [this] at hm
            simp only [List.mem_cons, List.mem_nil_iff, or_false] at hm
            exact h2 hm
          have e1 : ((s.extract 0 2).toList == [60, 62]) = false := by rw [HTW.out]; exact decide_eq_false fun h => h2 (.inl h)
          have e2 : ((s.extract 0 2).toList == [60, 61]) = false := by rw [HTW.out]; exact decide_eq_false fun h => h2 (.inr (.inl h))
          have e3 : ((s.extract 0 2).toList == [62, 61]) = false := by rw [HTW.out]; exact decide_eq_false fun h => h2 (.inr (.inr h))
          have HX1 := Lib.hid (fun (h3 : Bags.ones.contains s[0] = true) => show Bags.lexOne (bs s) = some (some ⟨5, [s[0]], 0⟩, 1) by
            have := lx_one hsg (r := (bs s).drop 1) hno2 h3
            rwa [← hc] at this)
          have HX0 := Lib.hid (fun (h3 : Bags.ones.contains s[0] = false) => show Bags.lexOne (bs s) = none by
            have := lx_no hsg (r := (bs s).drop 1) hno2 h3
            rwa [← hc] at this)
          clear hlen2 h2 hsg hc hb hr hlet hdig hno2 hq
          generalize Bags.ones.contains s[0] = O at *
          by_cases hgt : (1 : Int) < (s.size : Int)
          · have hgt2 : (2 : Int) ≤ (s.size : Int) := by omega
            cases O
            · have HX := Lib.hid (HX0.out rfl)
              go_enter Tryz.func41, Tryz.ntmps41
              go_wp2_with fail
              refine (HA.out _).mono ?_
              rintro e w' ⟨rfl, rfl⟩
              go_wp2_with fail
              refine (HD.out _).mono ?_
              rintro e w' ⟨rfl, rfl⟩
              go_wp2_with fail
              refine (HIN.out _).mono ?_
              rintro e w' ⟨rfl, rfl⟩
              go_wp2_with fail
              exact bodyPost_ret (results_cell_two rfl _ _ _ 98 _ (0, 0) _ rfl (Blk.made _ _ _) rfl rfl rfl) rfl ⟨(Below.refl _ _).alloc (Nat.le_refl _) _, .inl ⟨_, _, _, HX.out, rfl⟩⟩
            · have HX := Lib.hid (HX1.out rfl)
              go_enter Tryz.func41, Tryz.ntmps41
              go_wp2_with fail
              refine (HA.out _).mono ?_
              rintro e w' ⟨rfl, rfl⟩
              go_wp2_with fail
              refine (HD.out _).mono ?_
              rintro e w' ⟨rfl, rfl⟩
              go_wp2_with fail
              refine (HIN.out _).mono ?_
              rintro e w' ⟨rfl, rfl⟩
              go_wp2_with fail
              exact bodyPost_ret (results_cell_two rfl _ _ _ 98 _ (0, 0) _ rfl (Blk.made _ _ _) rfl rfl rfl) rfl ⟨(Below.refl _ _).alloc (Nat.le_refl _) _, .inr ⟨_, _, HX.out, by simp [sortB, HT1.out]⟩⟩
          · cases O
            · have HX := Lib.hid (HX0.out rfl)
              go_enter Tryz.func41, Tryz.ntmps41
              go_wp2_with fail
              refine (HA.out _).mono ?_
              rintro e w' ⟨rfl, rfl⟩
              go_wp2_with fail
              refine (HD.out _).mono ?_
              rintro e w' ⟨rfl, rfl⟩
              go_wp2_with fail
              refine (HIN.out _).mono ?_
              rintro e w' ⟨rfl, rfl⟩
              go_wp2_with fail
              exact bodyPost_ret (results_cell_two rfl _ _ _ 98 _ (0, 0) _ rfl (Blk.made _ _ _) rfl rfl rfl) rfl ⟨(Below.refl _ _).alloc (Nat.le_refl _) _, .inl ⟨_, _, _, HX.out, rfl⟩⟩
            · have HX := Lib.hid (HX1.out rfl)
              go_enter Tryz.func41, Tryz.ntmps41
              go_wp2_with fail
              refine (HA.out _).mono ?_
              rintro e w' ⟨rfl, rfl⟩
              go_wp2_with fail
              refine (HD.out _).mono ?_
              rintro e w' ⟨rfl, rfl⟩
              go_wp2_with fail
              refine (HIN.out _).mono ?_
              rintro e w' ⟨rfl, rfl⟩
              go_wp2_with fail
              exact bodyPost_ret (results_cell_two rfl _ _ _ 98 _ (0, 0) _ rfl (Blk.made _ _ _) rfl rfl rfl) rfl ⟨(Below.refl _ _).alloc (Nat.le_refl _) _, .inr ⟨_, _, HX.out, by simp [sortB, HT1.out]⟩⟩
end Go.Proofs.YtoephflcjllaaaaGreatDoor
/- Walk of the reference: Words. -/
namespace Go.Proofs.YtoephflcjllaaaaGreatDoor
open Go.RowKit

theorem elem_wordsR : Elem Tryz.prog 57 98 3 40 := ⟨Tryz.underlying57, by kernel_rfl, by decide⟩
theorem flatR (l : List Bags.W) : (l.flatMap wordR).length = l.length * 3 := by
  induction l with
  | nil => rfl
  | cons w r ih => simp [wordR, ih]; omega
/-- What Words answers. -/
def WordsR (s : ByteArray) (w : World) (e : Ending) (w' : World) : Prop :=
  Below w.heap.size w w' ∧ ((∃ p : Nat, Bags.words (bs s) = .inl p ∧ e = .returned (.tuple #[.slice none 0 0, .int .i64 p])) ∨
    ∃ ws v, Bags.words (bs s) = .inr ws ∧ e = .returned (.tuple #[v, .int .i64 (-1)]) ∧ w'.ownsRow w.heap.size 98 3 v ws.length (ws.flatMap wordR))
theorem bs_rest (s : ByteArray) (k : Nat) : bs (s.extract k s.size) = (bs s).drop k := by
  rw [extract_eq, List.take_of_length_le (by rw [List.length_drop, bs_length]; omega)]
theorem rest_size (s : ByteArray) (k : Nat) : (s.extract k s.size).size = s.size - k := by rw [ByteArray.size_extract]; omega

set_option maxRecDepth 100000 in
set_option maxHeartbeats 8000000 in
theorem words_ref (s : ByteArray) (w : World) (hs : s.size ≤ 140737488351232) : Calls Tryz.prog 19 #[.string s] w (WordsR s w) := by
  by_cases hlong : 400 < s.size
  · have hlong' : (400 : Int) < (s.size : Int) := by omega
    have HN := Lib.hid (show Bags.words (bs s) = .inl 400 by unfold Bags.words; rw [if_pos (by rw [bs_length]; exact hlong)])
    go_enter Tryz.func19, Tryz.ntmps19
    go_wp2_with fail
    go_ret2
    exact ⟨Below.refl _ _, .inl ⟨400, HN.out, rfl⟩⟩
  · have hlong' : ¬ (400 : Int) < (s.size : Int) := by omega
    have hs4 : s.size ≤ 400 := by omega
    have H0 := Lib.hid (show Seen s 0 [] by unfold Seen; rw [Bags.ahead_nil, Bags.words_at _ (by rw [bs_length]; exact hlong)])
    go_enter Tryz.func19, Tryz.ntmps19
    go_wp2_with fail
    go_loopw [4, 5] (fun o v wr => ∃ k acc, k ≤ s.size ∧ v = .int .i64 (k : Nat) ∧ Seen s k acc ∧ wr.ownsRow w.heap.size 98 3 o acc.length (acc.flatMap wordR) ∧ acc.length ≤ k ∧ Below w.heap.size w wr)
      (fun _ v _ => s.size - (intOf v).toNat)
    case atStart => exact ⟨0, [], by omega, rfl, H0.out, ⟨by simp, .inl ⟨rfl, rfl⟩⟩, by simp, Below.refl _ _⟩
    case round =>
      rename_i wr
      obtain ⟨k, acc, hk, rfl, hq, hown, hacc, hbl⟩ := hrel
      have HQ := Lib.hid hq
      have HB := Lib.hid hbl
      have HO := Lib.hid hown
      have hbs := hbl.size
      obtain ⟨bO, pO, rfl, hO1, hO2, hOx⟩ := own_rows hown
      clear hq hbl H0 hown hOx
      by_cases hlt : k < s.size
      · have hlt' : (k : Int) < (s.size : Int) := by omega
        have HD := Lib.hid (drop_cons s k hlt)
        by_cases hblank : s[k] = 32 ∨ s[k] = 9 ∨ s[k] = 10
        · have HX := Lib.hid (HQ.out.step hlt (HD.out.symm ▸ lx_blank hblank))
          have hcase : ∃ B1 B2 B3 : Bool, ((s[k].toNat : Int) == 32) = B1 ∧ ((s[k].toNat : Int) == 9) = B2 ∧ ((s[k].toNat : Int) == 10) = B3 ∧ (B1 || (B2 || B3)) = true := by
            refine ⟨_, _, _, rfl, rfl, rfl, ?_⟩
            rcases hblank with h | h | h <;> simp [h]
          obtain ⟨B1, B2, B3, e1, e2, e3, hor⟩ := hcase
          clear hblank
          cases B1 <;> cases B2 <;> cases B3 <;> first | (exfalso; revert hor; decide) | skip
          all_goals
            clear hor
            go_wp2_with fail
            exact ⟨⟨k + 1, acc, by omega, by simp, by simpa using HX.out, HO.out, by omega, HB.out⟩, by simp [intOf]; omega⟩
        · have t1 := tst_f s[k] (n := 32) 32 rfl (fun h => hblank (.inl h))
          have t2 := tst_f s[k] (n := 9) 9 rfl (fun h => hblank (.inr (.inl h)))
          have t3 := tst_f s[k] (n := 10) 10 rfl (fun h => hblank (.inr (.inr h)))
          by_cases hrem : s[k] = 45 ∧ ((bs s).drop (k + 1)).head? = some 45
          · have hn : k + 1 < s.size := by
              rcases Nat.lt_or_ge (k + 1) s.size with h | h
              · exact h
              · rw [drop_nil s (k + 1) h] at hrem; cases hrem.2
            have hn' : (k : Int) + 1 < (s.size : Int) := by omega
            have hn2' : (k : Int) + 2 ≤ (s.size : Int) := by omega
            have hn2 : s[k+1] = 45 := by have := hrem.2; rw [drop_cons s (k + 1) hn] at this; simpa using this
            have t5 : ((s.extract k (k + 2)).toList == [45, 45]) = true := by
              rw [bs_toList, extract_eq, HD.out, drop_cons s (k + 1) hn, hrem.1, hn2, show k + 2 - k = 2 by omega]; rfl
            obtain ⟨hj1, hj2, _, hj4⟩ := span_word (p := (· != 10)) hlt (by rw [hrem.1]; decide)
            have hx := lx_rem hblank hrem
            rw [hj4, ← HD.out] at hx
            have HX := Lib.hid (HQ.out.step hlt hx)
            clear hx hj4 hn2 hrem hblank
            go_wp2_with fail
            go_loop [5] (fun v => ∃ m : Nat, v = .int .i64 m ∧ k ≤ m ∧ m ≤ s.size ∧ spanTo (· != 10) s m = spanTo (· != 10) s k) (fun v => s.size - (intOf v).toNat)
            case atStart => exact ⟨k, rfl, Nat.le_refl _, hk, rfl⟩
            case round =>
              obtain ⟨m, rfl, hm1, hm2, hsp⟩ := hrel
              have HSP := Lib.hid hsp
              clear hsp
              by_cases hml : m < s.size
              · have hml' : (m : Int) < (s.size : Int) := by omega
                by_cases h10 : s[m] = 10
                · have q1 : ((s[m].toNat : Int) != 10) = false := by rw [h10]; rfl
                  have HE := Lib.hid (spanTo_no (p := (· != 10)) hml (by rw [h10]; decide))
                  clear h10
                  go_wp2_with fail
                  exact ⟨⟨m, acc, by omega, by simp, by
                    have := HX.out
                    rw [← HSP.out, HE.out, show k + (m - k) = m by omega] at this
                    simpa using this, HO.out, by omega, HB.out⟩, by simp [intOf]; have := HSP.out; rw [HE.out] at this; omega⟩
                · have q1 : ((s[m].toNat : Int) != 10) = true := by
                    have := tst_f s[m] (n := 10) 10 rfl h10
                    simpa [bne] using this
                  have HE := Lib.hid (spanTo_yes (p := (· != 10)) hml (by simpa using h10))
                  clear h10
                  go_wp2_with fail
                  exact ⟨⟨m + 1, by simp, by omega, by omega, by rw [← HE.out, HSP.out]⟩, by simp [intOf]; omega⟩
              · have hml' : ¬ (m : Int) < (s.size : Int) := by omega
                have hms : spanTo (· != 10) s m = m := by have := spanTo_le (· != 10) s m hm2; omega
                have HE := Lib.hid hms
                clear hms
                go_wp2_with fail
                exact ⟨⟨m, acc, by omega, by simp, by
                  have := HX.out
                  rw [← HSP.out, HE.out, show k + (m - k) = m by omega] at this
                  simpa using this, HO.out, by omega, HB.out⟩, by simp [intOf]; have := HSP.out; rw [HE.out] at this; omega⟩
          · have hsz0 : 0 < (s.extract k s.size).size := by rw [rest_size]; omega
            have hb0 : (s.extract k s.size)[0] = s[k] := by
              have h1 := bs_cons hsz0
              rw [bs_rest, HD.out] at h1
              injection h1 with h1
              exact h1.symm
            have hb1 : (bs (s.extract k s.size)).drop 1 = (bs s).drop (k + 1) := by rw [bs_rest, List.drop_drop]
            have hW := fun W => word_ref (s.extract k s.size) W (by rw [rest_size]; omega) hsz0 (by rw [hb0]; exact hblank) (by rw [hb0, hb1]; exact hrem)
            unfold WordPost at hW
            rw [bs_rest] at hW
            have HW := Lib.hid hW
            have hcase : ∃ B : Bool, ((s.extract k (k + 2)).toList == [45, 45]) = B ∧ ((k : Int) + 1 < (s.size : Int) → B = false) := by
              refine ⟨_, rfl, fun hn => ?_⟩
              rw [bs_toList, extract_eq, HD.out, drop_cons s (k + 1) (by omega), show k + 2 - k = 2 by omega]
              rw [beq_eq_false_iff_ne]
              intro h
              simp at h
              exact hrem ⟨h.1, by rw [drop_cons s (k + 1) (by omega), h.2]; rfl⟩
            obtain ⟨B, t5, hB⟩ := hcase
            clear hW hblank hrem hb0 hb1 hsz0
            by_cases hn : (k : Int) + 1 < (s.size : Int)
            all_goals
              first
                | (have hn2 : (k : Int) + 2 ≤ (s.size : Int) := by omega
                   obtain rfl := hB hn)
                | clear hB t5
              go_wp2_with fail
              refine (HW.out _).mono ?_
              rintro e w2 ⟨hb2, ⟨a, b, c, hx, rfl⟩ | ⟨x, n, hx, rfl⟩⟩
              · have HB2 := Lib.hid (HB.out.trans (hb2.mono hbs))
                have HX := Lib.hid (HQ.out.no hlt hx)
                clear hb2 hx
                go_wp2_with fail
                go_ret2
                exact ⟨HB2.out.alloc HB2.out.size _, .inl ⟨k, HX.out, rfl⟩⟩
              · have HB2 := Lib.hid (HB.out.trans (hb2.mono hbs))
                have hst := step_le hlt hx
                have HX := Lib.hid (HQ.out.step hlt hx)
                have hO2' := own_later HO.out hb2
                have hz2 := HB2.out.size
                have hn0 : ((n : Int) == 0) = false := beq_eq_false_iff_ne.2 (by omega)
                clear hb2 hx
                go_wp2_with (at_builtin; refine wpList_append_one rfl _ _ rfl (base := w.heap.size) elem_wordsR rfl (hO2'.alloc _) (cs := #[.string (sortB x.sort), .string (tx x.text), .int .i64 x.num]) rfl (by simp) rfl (by simp [Value.oneCell']) (by unfold maxLen; omega) (by omega) (by simp; omega) ?_; intro v5 w5 hown5 hb5 _ hz5)
                exact ⟨⟨k + n, acc ++ [x], by omega, by simp, by simpa using HX.out, by simpa [wordR] using hown5, by simp; omega, (HB2.out.alloc hz2 _).trans hb5⟩, by simp [intOf]; omega⟩
      · have hlt' : ¬ (k : Int) < (s.size : Int) := by omega
        have HX := Lib.hid (HQ.out.stop hlt)
        go_wp2_with fail
        go_ret2
        exact ⟨HB.out, .inr ⟨acc, _, HX.out, rfl, HO.out⟩⟩
end Go.Proofs.YtoephflcjllaaaaGreatDoor
