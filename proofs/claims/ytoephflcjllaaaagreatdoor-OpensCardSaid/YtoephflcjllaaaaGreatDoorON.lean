/- Walks: a value, on both sides. -/
import Derived.Test.YtoephflcjllaaaaGreatDoorOM
namespace Go.Proofs.YtoephflcjllaaaaGreatDoor
open Go.RowKit

theorem quoRes_pair (s : ByteArray) (i : Nat) : ∃ t k, quoRes s i = .tuple #[.string t, .int .i64 k] := by
  unfold quoRes; split <;> exact ⟨_, _, rfl⟩
theorem quoRef_pair (s : ByteArray) : ∃ t k, quoRef s = .tuple #[.string t, .int .i64 k] := by
  unfold quoRef; split <;> exact ⟨_, _, rfl⟩
theorem ret_two' {x y : Value} {a b : Bool} (hx : x = y) (h : a = b) : Ending.returned (.tuple #[x, .bool a]) = .returned (.tuple #[y, .bool b]) := by rw [hx, h]
theorem head_eq {s : ByteArray} (h : 0 < s.size) : (bs s).head? = some s[0] := by rw [bs_cons h]; rfl

set_option maxRecDepth 100000 in
set_option maxHeartbeats 1000000 in
theorem value_prog (hP : ParseSaid) (s : ByteArray) (t : Bool) (w : World) (hs : s.size ≤ 140737488351232) (h0 : 0 < s.size) (hv : Vars w) :
    Calls Tryz.prog 50 #[.string s, .int .i64 (if t then 2 else 1)] w fun e w' => (∃ tp v, e = .returned (.tuple #[.iface tp v, .bool (Bags.valOK (bs s) t)])) ∧ Below w.heap.size w w' := by
  have h0' : (1 : Int) ≤ (s.size : Int) := by omega
  by_cases hn : bs s = Bags.str "null"
  · have ht : (s.toList == [110, 117, 108, 108]) = true := by rw [bs_toList, hn, str_null]; rfl
    have hr : Bags.valOK (bs s) t = true := by unfold Bags.valOK; rw [if_pos hn]
    rw [hr]
    clear hn hr
    cases t
    all_goals
      go_enter Tryz.func50, Tryz.ntmps50
      go_wp2_with fail
      go_ret2
      exact ⟨⟨_, _, rfl⟩, Below.refl _ _⟩
  · have ht : (s.toList == [110, 117, 108, 108]) = false := by rw [bs_toList, ← str_null]; simpa using hn
    by_cases hq : s[0] = 39
    · have t1 := tst_t s[0] (n := 39) 39 rfl hq
      have hr : Bags.valOK (bs s) t = t := by unfold Bags.valOK; rw [if_neg hn, head_eq h0, hq, if_pos rfl]
      have HQ := Lib.hid (quoted_any s 0 w hs h0)
      rw [hr]
      obtain ⟨a, b, hab⟩ := quoRes_pair s 0
      rw [hab] at HQ
      clear hn hr hq hab
      cases t
      · go_enter Tryz.func50, Tryz.ntmps50
        go_wp2_with fail
        refine HQ.out.mono ?_
        rintro e w' ⟨rfl, hb⟩
        have HB := Lib.hid hb
        clear hb
        go_wp2_with fail
        go_ret2
        exact ⟨⟨_, _, rfl⟩, HB.out⟩
      · go_enter Tryz.func50, Tryz.ntmps50
        go_wp2_with fail
        refine HQ.out.mono ?_
        rintro e w' ⟨rfl, hb⟩
        have HB := Lib.hid hb
        clear hb
        go_wp2_with fail
        go_ret2
        exact ⟨⟨_, _, rfl⟩, HB.out⟩
    · have t1 := tst_f s[0] (n := 39) 39 rfl hq
      have hr : Bags.valOK (bs s) t = (Bags.intOK (bs s) && !t) := by
        unfold Bags.valOK; rw [if_neg hn, head_eq h0, if_neg (by simpa using hq)]
      rw [hr]
      clear hr hn hq
      by_cases hok : ∃ v, Lib.parseIntB 64 (bs s) = .ok v
      · obtain ⟨v, hpi⟩ := hok
        have HP := Lib.hid (hP.ok s v w hv hs hpi)
        by_cases hp : s[0] = 43
        · have t2 : ((s[0].toNat : Int) != 43) = false := by rw [hp]; rfl
          have hi : Bags.intOK (bs s) = false := by
            unfold Bags.intOK
            rw [head_eq h0, hp]
            have hx : ((some (43 : UInt8) == some 45) : Bool) = false := by decide
            rw [hx]
            have hmem : (43 : UInt8) ∈ bs s := by rw [bs_cons h0, hp]; simp
            have : (bs s).all Bags.digit = false := by
              cases hb : (bs s).all Bags.digit
              · rfl
              · have := List.all_eq_true.1 hb _ hmem
                revert this; decide
            simp [this]
          rw [hi]
          clear hi hp
          cases t
          all_goals
            go_enter Tryz.func50, Tryz.ntmps50
            go_wp2_with fail
            refine HP.out.mono ?_
            rintro e w' ⟨rfl, hb⟩
            have HB := Lib.hid hb
            clear hb
            go_wp2_with fail
            go_ret2
            exact ⟨⟨_, _, rfl⟩, HB.out⟩
        · have t2 : ((s[0].toNat : Int) != 43) = true := by
            have := tst_f s[0] (n := 43) 43 rfl hp
            rw [bne, this]; rfl
          have hi : Bags.intOK (bs s) = true := (int_ok (bs s) (by rw [head_eq h0]; simpa using hp)).1 ⟨v, hpi⟩
          rw [hi]
          clear hi hp
          cases t
          · go_enter Tryz.func50, Tryz.ntmps50
            go_wp2_with fail
            refine HP.out.mono ?_
            rintro e w' ⟨rfl, hb⟩
            have HB := Lib.hid hb
            clear hb
            go_wp2_with fail
            go_ret2
            exact ⟨⟨_, _, rfl⟩, HB.out⟩
          · go_enter Tryz.func50, Tryz.ntmps50
            go_wp2_with fail
            refine HP.out.mono ?_
            rintro e w' ⟨rfl, hb⟩
            have HB := Lib.hid hb
            clear hb
            go_wp2_with fail
            go_ret2
            exact ⟨⟨_, _, rfl⟩, HB.out⟩
      · have HP := Lib.hid (hP.no s w hv hs (fun v h => hok ⟨v, h⟩))
        have hi : (Bags.intOK (bs s) && !t) = false := by
          cases hb : Bags.intOK (bs s)
          · rfl
          · exfalso
            apply hok
            refine (int_ok (bs s) ?_).2 hb
            intro h43
            rw [head_eq h0] at h43
            injection h43 with h43
            unfold Bags.intOK at hb
            rw [head_eq h0, h43] at hb
            have hx : ((some (43 : UInt8) == some 45) : Bool) = false := by decide
            rw [hx] at hb
            simp only [Bool.and_eq_true] at hb
            have hmem : (43 : UInt8) ∈ bs s := by rw [bs_cons h0, h43]; simp
            have := List.all_eq_true.1 hb.1.2 _ hmem
            revert this; decide
        rw [hi]
        clear hi hok
        cases t
        all_goals
          go_enter Tryz.func50, Tryz.ntmps50
          go_wp2_with fail
          refine HP.out.mono ?_
          rintro e w' ⟨v, N, rfl, hb⟩
          have HB := Lib.hid hb
          clear hb
          go_wp2_with fail
          go_ret2
          exact ⟨⟨_, _, rfl⟩, HB.out⟩

theorem results_cell_two {P : Program} {fn : Func} {p u : Tmp} {ty : TypeId} (h : fn.results = #[.cell p ty, .tmp u]) (tmps : Array Value) (w : World) (g : Nat) (t : TypeId) (cs : Array Value) (fr : Nat × Nat) (d : TypeDesc)
    (hp : tmps.getD p undef = .pointer (some ⟨g, 0, none⟩)) (hg : w.heap[g]? = some (.cells cs t fr))
    (hu : P.underlying ty = some d) (hd : (match d with | .struct _ | .array _ _ => true | _ => false) = true) (hi : (P.info? ty).map (·.size) = some cs.size) :
    (results fn tmps).run P w = .ok (.tuple #[.agg cs, tmps.getD u undef]) w := by
  have hp' : tmps[p]?.getD undef = .pointer (some ⟨g, 0, none⟩) := by simpa using hp
  simp [results, h, hp', asAddr, run_loadVar_row w g t ty cs fr d hg hu hd hi]

/-- How the reference spells a column's type. -/
def typS (t : Bool) : ByteArray := if t then ⟨#[116, 101, 120, 116]⟩ else ⟨#[105, 110, 116]⟩
theorem typS_text (t : Bool) : ((typS t).toList == [116, 101, 120, 116]) = t := by rw [bs_toList]; cases t <;> decide
theorem typS_int (t : Bool) : ((typS t).toList == [105, 110, 116]) = !t := by rw [bs_toList]; cases t <;> decide
theorem takeWhile_self {p : UInt8 → Bool} : ∀ {s : List UInt8}, (∀ c ∈ s, p c = true) → s.takeWhile p = s
  | [], _ => rfl
  | a :: s, h => by rw [List.takeWhile_cons, if_pos (h a (by simp)), takeWhile_self fun c hc => h c (by simp [hc])]
theorem all_digits (l : List UInt8) : l.all Bags.digit = decide ((l.takeWhile Bags.digit).length = l.length) := by
  rw [Bool.eq_iff_iff, List.all_eq_true, decide_eq_true_eq]
  constructor
  · intro h; rw [takeWhile_self h]
  · intro h; exact Bags.takeWhile_full h
theorem intOK_at (s : List UInt8) (neg : Bool) (d : List UInt8) (hneg : ((s.head? == some 45) : Bool) = neg) (hd : d = if neg then s.drop 1 else s) :
    Bags.intOK s = (!decide ((d.takeWhile Bags.digit).length = 0) && decide ((d.takeWhile Bags.digit).length = d.length) && decide (Bags.natOf d < 2 ^ 63 + if neg then 1 else 0)) := by
  unfold Bags.intOK
  rw [hneg]
  dsimp only
  rw [← hd, all_digits]
  by_cases h : (d.takeWhile Bags.digit).length = d.length
  · rw [h]
    congr 2
    rw [Bool.eq_iff_iff]; simp
  · rw [decide_eq_false h]; simp

set_option maxRecDepth 100000 in
set_option maxHeartbeats 2000000 in
theorem value_ref (s : ByteArray) (t : Bool) (w : World) (hs : s.size ≤ 140737488351232) (h0 : 0 < s.size) :
    Calls Tryz.prog 17 #[.string s, .string (typS t)] w fun e w' => (∃ a b c, e = .returned (.tuple #[.agg #[.string a, .int .i64 b, .string c], .bool (Bags.valOK (bs s) t)])) ∧ Below w.heap.size w w' := by
  have h0' : (1 : Int) ≤ (s.size : Int) := by omega
  have hty := typS_text t
  have hty2 := typS_int t
  by_cases hn : bs s = Bags.str "null"
  · have ht : (s.toList == [110, 117, 108, 108]) = true := by rw [bs_toList, hn, str_null]; rfl
    have hr : Bags.valOK (bs s) t = true := by unfold Bags.valOK; rw [if_pos hn]
    rw [hr]
    clear hn hr
    go_enter Tryz.func17, Tryz.ntmps17
    go_wp2_with fail
    refine bodyPost_ret (results_cell_two rfl _ _ _ 52 _ (0, 0) _ rfl (Blk.made _ _ _) rfl rfl rfl) rfl ⟨⟨_, _, _, rfl⟩, (Below.refl _ _).alloc (Nat.le_refl _) _⟩
  · have ht : (s.toList == [110, 117, 108, 108]) = false := by rw [bs_toList, ← str_null]; simpa using hn
    by_cases hq : s[0] = 39
    · have t1 := tst_t s[0] (n := 39) 39 rfl hq
      have hr : Bags.valOK (bs s) t = t := by unfold Bags.valOK; rw [if_neg hn, head_eq h0, hq, if_pos rfl]
      have hQ := fun W => quoted_ref s W hs (by omega)
      rw [hr]
      obtain ⟨a, b, hab⟩ := quoRef_pair s
      rw [hab] at hQ
      have HQ := Lib.hid hQ
      clear hn hr hq hab hQ
      go_enter Tryz.func17, Tryz.ntmps17
      go_wp2_with fail
      refine (HQ.out _).mono ?_
      rintro e w' ⟨rfl, rfl⟩
      go_wp2_with fail
      refine bodyPost_ret (results_cell_two rfl _ _ _ 52 _ (0, 0) _ rfl (Blk.made _ _ _) rfl rfl rfl) rfl ⟨⟨_, _, _, rfl⟩, (Below.refl _ _).alloc (Nat.le_refl _) _⟩
    · have t1 := tst_f s[0] (n := 39) 39 rfl hq
      have hr : Bags.valOK (bs s) t = (Bags.intOK (bs s) && !t) := by
        unfold Bags.valOK; rw [if_neg hn, head_eq h0, if_neg (by simpa using hq)]
      rw [hr]
      clear hr hn
      have main : ∀ (neg : Bool) (d : ByteArray), ((s[0].toNat : Int) == 45) = neg → d.size ≤ s.size → (neg = true → s.extract 1 s.size = d) → (neg = false → s = d) → bs d = (if neg then (bs s).drop 1 else bs s) →
          Calls Tryz.prog 17 #[.string s, .string (typS t)] w fun e w' => (∃ a b c, e = .returned (.tuple #[.agg #[.string a, .int .i64 b, .string c], .bool (Bags.intOK (bs s) && !t)])) ∧ Below w.heap.size w w' := by
        intro neg d hneg hd hd1 hd2 hd3
        have hio := intOK_at (bs s) neg (bs d) (by
          rw [head_eq h0, ← hneg, show (45 : Int) = ((45 : UInt8).toNat : Int) from rfl, u8_int, Bool.eq_iff_iff]; simp) hd3
        rw [hio, bs_length]
        have hR := fun W => run_any d (tx Bags.digitsS) W (by omega) (by decide)
        rw [bs_tx, Bags.digitsS_fun] at hR
        have hN := fun (h : ((bs d).takeWhile Bags.digit).length = d.size) W => number_ref d neg W (by omega) (Bags.takeWhile_full (by rw [h, bs_length]))
        generalize hk : ((bs d).takeWhile Bags.digit).length = k at *
        generalize Bags.natOf (bs d) = v at *
        have HR := Lib.hid hR
        have HN := Lib.hid hN
        have hkle : k ≤ d.size := by
          rw [← hk, ← bs_length]; exact Bags.takeWhile_len _ _
        cases neg
        · have hsd := hd2 rfl
          subst hsd
          clear hio hR hN hd3 hk hq hd1
          by_cases hk0 : k = 0
          · subst hk0
            cases t
            all_goals
              go_enter Tryz.func17, Tryz.ntmps17
              go_wp2_with fail
              refine (HR.out _).mono ?_
              rintro e w' ⟨rfl, rfl⟩
              go_wp2_with fail
              refine bodyPost_ret (results_cell_two rfl _ _ _ 52 _ (0, 0) _ rfl (Blk.made _ _ _) rfl rfl rfl) rfl ⟨⟨_, _, _, ret_two ?_⟩, (Below.refl _ _).alloc (Nat.le_refl _) _⟩
              simp
          · have hk0' : ((k : Int) == 0) = false := by simp; omega
            by_cases hkl : (k : Int) < (s.size : Int)
            · have hkn : ¬ k = s.size := by omega
              have hkl' : k < s.size := by omega
              cases t
              all_goals
                go_enter Tryz.func17, Tryz.ntmps17
                go_wp2_with fail
                refine (HR.out _).mono ?_
                rintro e w' ⟨rfl, rfl⟩
                go_wp2_with fail
                all_goals
                  refine bodyPost_ret (results_cell_two rfl _ _ _ 52 _ (0, 0) _ rfl (Blk.made _ _ _) rfl rfl rfl) rfl ⟨⟨_, _, _, ret_two ?_⟩, (Below.refl _ _).alloc (Nat.le_refl _) _⟩
                  first | rfl | (simp [hkn]; done) | (simp at *; omega)
            · have hkd : k = s.size := by omega
              have HN2 := Lib.hid (HN.out hkd)
              subst hkd
              cases t
              · go_enter Tryz.func17, Tryz.ntmps17
                go_wp2_with fail
                refine (HR.out _).mono ?_
                rintro e w' ⟨rfl, rfl⟩
                go_wp2_with fail
                refine (HN2.out _).mono ?_
                rintro e w' ⟨⟨v', rfl, _⟩, rfl⟩
                go_wp2_with fail
                refine bodyPost_ret (results_cell_two rfl _ _ _ 52 _ (0, 0) _ rfl (Blk.made _ _ _) rfl rfl rfl) rfl ⟨⟨_, _, _, ret_two ?_⟩, (Below.refl _ _).alloc (Nat.le_refl _) _⟩
                simp
              · go_enter Tryz.func17, Tryz.ntmps17
                go_wp2_with fail
                refine (HR.out _).mono ?_
                rintro e w' ⟨rfl, rfl⟩
                go_wp2_with fail
                refine bodyPost_ret (results_cell_two rfl _ _ _ 52 _ (0, 0) _ rfl (Blk.made _ _ _) rfl rfl rfl) rfl ⟨⟨_, _, _, ret_two ?_⟩, (Below.refl _ _).alloc (Nat.le_refl _) _⟩
                simp
        · have hsd := hd1 rfl
          clear hio hR hN hd3 hk hq hd2
          by_cases hk0 : k = 0
          · subst hk0
            cases t
            all_goals
              go_enter Tryz.func17, Tryz.ntmps17
              go_wp2_with fail
              refine (HR.out _).mono ?_
              rintro e w' ⟨rfl, rfl⟩
              go_wp2_with fail
              refine bodyPost_ret (results_cell_two rfl _ _ _ 52 _ (0, 0) _ rfl (Blk.made _ _ _) rfl rfl rfl) rfl ⟨⟨_, _, _, ret_two ?_⟩, (Below.refl _ _).alloc (Nat.le_refl _) _⟩
              simp
          · have hk0' : ((k : Int) == 0) = false := by simp; omega
            by_cases hkl : (k : Int) < (d.size : Int)
            · have hkn : ¬ k = d.size := by omega
              have hkl' : k < d.size := by omega
              cases t
              all_goals
                go_enter Tryz.func17, Tryz.ntmps17
                go_wp2_with fail
                refine (HR.out _).mono ?_
                rintro e w' ⟨rfl, rfl⟩
                go_wp2_with fail
                all_goals
                  refine bodyPost_ret (results_cell_two rfl _ _ _ 52 _ (0, 0) _ rfl (Blk.made _ _ _) rfl rfl rfl) rfl ⟨⟨_, _, _, ret_two ?_⟩, (Below.refl _ _).alloc (Nat.le_refl _) _⟩
                  first | rfl | (simp [hkn]; done) | (simp at *; omega)
            · have hkd : k = d.size := by omega
              have HN2 := Lib.hid (HN.out hkd)
              subst hkd
              cases t
              · go_enter Tryz.func17, Tryz.ntmps17
                go_wp2_with fail
                refine (HR.out _).mono ?_
                rintro e w' ⟨rfl, rfl⟩
                go_wp2_with fail
                refine (HN2.out _).mono ?_
                rintro e w' ⟨⟨v', rfl, _⟩, rfl⟩
                go_wp2_with fail
                refine bodyPost_ret (results_cell_two rfl _ _ _ 52 _ (0, 0) _ rfl (Blk.made _ _ _) rfl rfl rfl) rfl ⟨⟨_, _, _, ret_two ?_⟩, (Below.refl _ _).alloc (Nat.le_refl _) _⟩
                simp
              · go_enter Tryz.func17, Tryz.ntmps17
                go_wp2_with fail
                refine (HR.out _).mono ?_
                rintro e w' ⟨rfl, rfl⟩
                go_wp2_with fail
                refine bodyPost_ret (results_cell_two rfl _ _ _ 52 _ (0, 0) _ rfl (Blk.made _ _ _) rfl rfl rfl) rfl ⟨⟨_, _, _, ret_two ?_⟩, (Below.refl _ _).alloc (Nat.le_refl _) _⟩
                simp
      by_cases hm : s[0] = 45
      · refine main true (s.extract 1 s.size) (tst_t s[0] 45 rfl hm) ?_ (fun _ => rfl) (fun h => by cases h) ?_
        · rw [← bs_length, ← bs_length, extract_eq, List.length_take, List.length_drop]; omega
        · rw [extract_eq, List.take_of_length_le (by rw [List.length_drop, bs_length]; omega)]; rfl
      · exact main false s (tst_f s[0] 45 rfl hm) (Nat.le_refl _) (fun h => by cases h) (fun _ => rfl) rfl
end Go.Proofs.YtoephflcjllaaaaGreatDoor
