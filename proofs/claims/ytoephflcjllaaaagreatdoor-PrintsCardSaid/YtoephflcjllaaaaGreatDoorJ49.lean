/- The reference's printer: Print at a tree that has but kids, part B; printed by gen_ud.py. -/
import Derived.Test.YtoephflcjllaaaaGreatDoorJ48
namespace Bags
/-- What a tree prints, by what stands in its cells and what its kids print. -/
inductive PKB : Str → Str → Str → Str → Str → Int → Bool → Bool → Bool → List Str → Str → Prop
  | agg {fn a : Str} (h : fn = [99, 111, 117, 110, 116] ∨ fn = [115, 117, 109] ∨ fn = [109, 105, 110] ∨ fn = [109, 97, 120]) : PKB fn [] [] [] [] 0 false false false [a] (fn ++ [40] ++ a ++ [41])
  | isin {a b : Str} {n : Bool} : PKB [105, 110] [] [] [] [] 0 false n false [a, b] (a ++ [32] ++ (if n then [110, 111, 116, 32] else []) ++ [105, 110, 32, 40] ++ b ++ [41])
  | quant {how s a b : Str} (h : how = [97, 110, 121] ∨ how = [97, 108, 108]) : PKB how s [] [] [] 0 false false false [a, b] (a ++ [32] ++ s ++ [32] ++ how ++ [32, 40] ++ b ++ [41])
  | cmp {s a b : Str} : PKB [99, 111, 109, 112, 97, 114, 101] s [] [] [] 0 false false false [a, b] (a ++ [32] ++ s ++ [32] ++ b)
end Bags
namespace Go.Proofs.YtoephflcjllaaaaGreatDoor
open Go.RowKit

set_option maxRecDepth 100000 in
set_option maxHeartbeats 16000000 in
theorem nodeB_ref {B b : Nat} {t : TypeId} {kd sg txt of_ as_ : Bags.Str} {nm : Int} {st nt al : Bool} {v x1 x2 x3 x4 x5 : Value} {ks : List Nat} {ss : List Bags.Str} {s : Bags.Str} {w : World}
    (hb : Blk w b t (treeC kd sg txt of_ as_ nm st nt al false v x1 x2 x3 x4 x5)) (hk : kidsV w B v ks) (hss : ss.length = ks.length)
    (hc : ∀ (k : Nat) (h : k < ks.length) (h' : k < ss.length), RP w ks[k] ss[k]) (hp : Bags.PKB kd sg txt of_ as_ nm st nt al ss s)
    (hl : kd.length + sg.length + txt.length + of_.length + as_.length + (ss.map fun a => a.length + 2).sum ≤ 1099511627776) :
    Calls Tryz.prog 10 #[.pointer (some ⟨b, 0, none⟩)] w (PPost w s) := by
  have HC := Lib.hid hc
  have HK := Lib.hid hk
  have HB := Lib.hid hb
  have HL := Lib.hid hl
  obtain ⟨base, cap, rfl⟩ := kids_slice hk
  have hkn : ks.length ≤ 2 := by rw [← hss]; cases hp <;> simp
  have HP := Lib.hid hp
  obtain ⟨_, _, _, _, _, _, _, _, _, c10⟩ := keepT hb (Below.refl _ _)
  obtain ⟨K, hK⟩ : ∃ K, Hid (K = tx kd) := ⟨_, Lib.hid rfl⟩
  clear hc hk hb hp hl
  go_enter Tryz.func10, Tryz.ntmps10
  go_wp2_with fail
  go_loopw [3, 4] (fun kv iv wr => ∃ k : Nat, k ≤ ks.length ∧ iv = .int .i64 k ∧ wr.ownsRow w.heap.size 9 1 kv k ((ss.take k).map strV) ∧ Below w.heap.size w wr) (fun _ iv _ => ks.length - (intOf iv).toNat)
  case atStart => exact ⟨0, by omega, rfl, ⟨by simp, .inl ⟨rfl, rfl⟩⟩, Below.refl _ _⟩
  case round =>
    rename_i kv _ wr
    obtain ⟨k, hk, rfl, hown, hbl⟩ := hrel
    have hbs := hbl.size
    have HBL := Lib.hid hbl
    obtain ⟨c0, c1, c2, c3, c4, c5, c6, c7, c8, c10⟩ := keepT HB.out hbl
    rw [← hK.out] at c0
    clear hbl
    by_cases hlt : k < ks.length
    · have hlt' : (k : Int) < (ks.length : Int) := by omega
      have hks : k < ss.length := by omega
      obtain ⟨g, rfl⟩ := kids_base HK.out (by omega)
      have l0 := kids_cell (kids_fr HK.out (Fr.of_below HBL.out)) hlt
      have HR := Lib.hid (HC.out k hlt hks)
      have HT := Lib.hid (show (ss.take (k + 1)).map strV = (ss.take k).map strV ++ [.string (tx ss[k])] by rw [List.take_succ_eq_append_getElem hks, List.map_append]; rfl)
      clear c0 c1 c2 c3 c4 c5 c6 c7 c8
      go_wp2_with fail
      refine (HR.out _ (Fr.of_below HBL.out)).mono ?_
      rintro e w2 ⟨rfl, hF'⟩
      have hb2 := hF'.below (Nat.le_refl _) (fun _ h => h.elim)
      have hown2 := ownsRow_fr hown hF' (fun _ h => h.elim) (fun _ _ h => h)
      have hsz2 := hF'.size
      have HB2 := Lib.hid (HBL.out.trans (hb2.mono hbs))
      clear hF' hb2 hown
      go_wp2_with (at_builtin; refine wpList_append_one rfl _ _ rfl (base := w.heap.size) elem_strs rfl hown2 (cs := #[.string (tx ss[k])]) rfl rfl rfl (by simp [Value.oneCell']) (by unfold maxLen; omega) (by omega) (by omega) ?_; intro b' w1 hown1 hb1 _ hz1)
      exact ⟨⟨k + 1, by omega, by go_num, by rw [HT.out]; exact hown1, HB2.out.trans hb1⟩, by simp [intOf]; omega⟩
    · obtain rfl : k = ks.length := by omega
      rw [List.take_of_length_le (by omega)] at hown
      have HO := Lib.hid hown
      have HF := Lib.hid (Fr.of_below HBL.out : Fr (fun _ => False) w wr)
      clear hown
      obtain ⟨s', hp, HS⟩ : ∃ s', Bags.PKB kd sg txt of_ as_ nm st nt al ss s' ∧ Hid (s' = s) := ⟨_, HP.out, Lib.hid rfl⟩
      have hql := kd_is hK.out
      have hla := HL.out
      clear hbs hk hlt hss HP HL
      cases hp with
      | @agg _ a h =>
        rcases h with rfl | rfl | rfl | rfl
        · skip
          simp only [List.map_cons, List.map_nil, List.sum_cons, List.sum_nil, List.length_cons, List.length_nil] at hla
          obtain ⟨g, cp, rfl, k0⟩ := row1 HO.out
          unfold strV at k0
          have q0 := (hql [110, 117, 109]).trans (by decide : _ = false)
          have q1 := (hql [116, 101, 120, 116]).trans (by decide : _ = false)
          have q2 := (hql [110, 117, 108, 108]).trans (by decide : _ = false)
          have q3 := (hql [99, 111, 108, 117, 109, 110]).trans (by decide : _ = false)
          have q4 := (hql [110, 101, 103]).trans (by decide : _ = false)
          have q5 := (hql [99, 111, 117, 110, 116]).trans (by decide : _ = true)
          clear hql
          obtain ⟨X0, y0, z0⟩ := cat hK (Lib.hid (rfl : ⟨#[40]⟩ = tx [40])) (by simp <;> omega)
          obtain ⟨X1, y1, z1⟩ := cat y0 (Lib.hid (rfl : tx a = tx a)) (by simp <;> omega)
          obtain ⟨X2, y2, z2⟩ := cat y1 (Lib.hid (rfl : ⟨#[41]⟩ = tx [41])) (by simp <;> omega)
          have HA := Lib.hid (show Ending.returned (Value.string X2) = .returned (.string (tx s)) by rw [y2.out, ← HS.out])
          clear hla
          go_wp2_with (go_at_call 22; refine (not_ref _ _).mono ?_; rintro e w2 ⟨rfl, rfl⟩)
          go_quiet (fail)
          go_wp2_with fail
          go_ret
          exact ⟨HA.out, HF.out.drewN _⟩
        · skip
          simp only [List.map_cons, List.map_nil, List.sum_cons, List.sum_nil, List.length_cons, List.length_nil] at hla
          obtain ⟨g, cp, rfl, k0⟩ := row1 HO.out
          unfold strV at k0
          have q0 := (hql [110, 117, 109]).trans (by decide : _ = false)
          have q1 := (hql [116, 101, 120, 116]).trans (by decide : _ = false)
          have q2 := (hql [110, 117, 108, 108]).trans (by decide : _ = false)
          have q3 := (hql [99, 111, 108, 117, 109, 110]).trans (by decide : _ = false)
          have q4 := (hql [110, 101, 103]).trans (by decide : _ = false)
          have q5 := (hql [99, 111, 117, 110, 116]).trans (by decide : _ = false)
          have q6 := (hql [115, 117, 109]).trans (by decide : _ = true)
          clear hql
          obtain ⟨X0, y0, z0⟩ := cat hK (Lib.hid (rfl : ⟨#[40]⟩ = tx [40])) (by simp <;> omega)
          obtain ⟨X1, y1, z1⟩ := cat y0 (Lib.hid (rfl : tx a = tx a)) (by simp <;> omega)
          obtain ⟨X2, y2, z2⟩ := cat y1 (Lib.hid (rfl : ⟨#[41]⟩ = tx [41])) (by simp <;> omega)
          have HA := Lib.hid (show Ending.returned (Value.string X2) = .returned (.string (tx s)) by rw [y2.out, ← HS.out])
          clear hla
          go_wp2_with (go_at_call 22; refine (not_ref _ _).mono ?_; rintro e w2 ⟨rfl, rfl⟩)
          go_quiet (fail)
          go_wp2_with fail
          go_ret
          exact ⟨HA.out, HF.out.drewN _⟩
        · skip
          simp only [List.map_cons, List.map_nil, List.sum_cons, List.sum_nil, List.length_cons, List.length_nil] at hla
          obtain ⟨g, cp, rfl, k0⟩ := row1 HO.out
          unfold strV at k0
          have q0 := (hql [110, 117, 109]).trans (by decide : _ = false)
          have q1 := (hql [116, 101, 120, 116]).trans (by decide : _ = false)
          have q2 := (hql [110, 117, 108, 108]).trans (by decide : _ = false)
          have q3 := (hql [99, 111, 108, 117, 109, 110]).trans (by decide : _ = false)
          have q4 := (hql [110, 101, 103]).trans (by decide : _ = false)
          have q5 := (hql [99, 111, 117, 110, 116]).trans (by decide : _ = false)
          have q6 := (hql [115, 117, 109]).trans (by decide : _ = false)
          have q7 := (hql [109, 105, 110]).trans (by decide : _ = true)
          clear hql
          obtain ⟨X0, y0, z0⟩ := cat hK (Lib.hid (rfl : ⟨#[40]⟩ = tx [40])) (by simp <;> omega)
          obtain ⟨X1, y1, z1⟩ := cat y0 (Lib.hid (rfl : tx a = tx a)) (by simp <;> omega)
          obtain ⟨X2, y2, z2⟩ := cat y1 (Lib.hid (rfl : ⟨#[41]⟩ = tx [41])) (by simp <;> omega)
          have HA := Lib.hid (show Ending.returned (Value.string X2) = .returned (.string (tx s)) by rw [y2.out, ← HS.out])
          clear hla
          go_wp2_with (go_at_call 22; refine (not_ref _ _).mono ?_; rintro e w2 ⟨rfl, rfl⟩)
          go_quiet (fail)
          go_wp2_with fail
          go_ret
          exact ⟨HA.out, HF.out.drewN _⟩
        · skip
          simp only [List.map_cons, List.map_nil, List.sum_cons, List.sum_nil, List.length_cons, List.length_nil] at hla
          obtain ⟨g, cp, rfl, k0⟩ := row1 HO.out
          unfold strV at k0
          have q0 := (hql [110, 117, 109]).trans (by decide : _ = false)
          have q1 := (hql [116, 101, 120, 116]).trans (by decide : _ = false)
          have q2 := (hql [110, 117, 108, 108]).trans (by decide : _ = false)
          have q3 := (hql [99, 111, 108, 117, 109, 110]).trans (by decide : _ = false)
          have q4 := (hql [110, 101, 103]).trans (by decide : _ = false)
          have q5 := (hql [99, 111, 117, 110, 116]).trans (by decide : _ = false)
          have q6 := (hql [115, 117, 109]).trans (by decide : _ = false)
          have q7 := (hql [109, 105, 110]).trans (by decide : _ = false)
          have q8 := (hql [109, 97, 120]).trans (by decide : _ = true)
          clear hql
          obtain ⟨X0, y0, z0⟩ := cat hK (Lib.hid (rfl : ⟨#[40]⟩ = tx [40])) (by simp <;> omega)
          obtain ⟨X1, y1, z1⟩ := cat y0 (Lib.hid (rfl : tx a = tx a)) (by simp <;> omega)
          obtain ⟨X2, y2, z2⟩ := cat y1 (Lib.hid (rfl : ⟨#[41]⟩ = tx [41])) (by simp <;> omega)
          have HA := Lib.hid (show Ending.returned (Value.string X2) = .returned (.string (tx s)) by rw [y2.out, ← HS.out])
          clear hla
          go_wp2_with (go_at_call 22; refine (not_ref _ _).mono ?_; rintro e w2 ⟨rfl, rfl⟩)
          go_quiet (fail)
          go_wp2_with fail
          go_ret
          exact ⟨HA.out, HF.out.drewN _⟩
      | @isin a b _ =>
        simp only [List.map_cons, List.map_nil, List.sum_cons, List.sum_nil, List.length_cons, List.length_nil] at hla
        obtain ⟨g, cp, rfl, k0, k1⟩ := row2 HO.out
        unfold strV at k0 k1
        have q0 := (hql [110, 117, 109]).trans (by decide : _ = false)
        have q1 := (hql [116, 101, 120, 116]).trans (by decide : _ = false)
        have q2 := (hql [110, 117, 108, 108]).trans (by decide : _ = false)
        have q3 := (hql [99, 111, 108, 117, 109, 110]).trans (by decide : _ = false)
        have q4 := (hql [110, 101, 103]).trans (by decide : _ = false)
        have q5 := (hql [99, 111, 117, 110, 116]).trans (by decide : _ = false)
        have q6 := (hql [115, 117, 109]).trans (by decide : _ = false)
        have q7 := (hql [109, 105, 110]).trans (by decide : _ = false)
        have q8 := (hql [109, 97, 120]).trans (by decide : _ = false)
        have q9 := (hql [110, 111, 116]).trans (by decide : _ = false)
        have q10 := (hql [101, 120, 105, 115, 116, 115]).trans (by decide : _ = false)
        have q11 := (hql [105, 115, 110, 117, 108, 108]).trans (by decide : _ = false)
        have q12 := (hql [105, 110]).trans (by decide : _ = true)
        clear hql
        have hwd := wd_len nt
        obtain ⟨X0, y0, z0⟩ := cat (Lib.hid (rfl : tx a = tx a)) (Lib.hid (rfl : ⟨#[32]⟩ = tx [32])) (by simp <;> omega)
        obtain ⟨X1, y1, z1⟩ := cat y0 (Lib.hid (rfl : tx (wd nt) = tx (wd nt))) (by simp <;> omega)
        obtain ⟨X2, y2, z2⟩ := cat y1 (Lib.hid (rfl : ⟨#[105, 110, 32, 40]⟩ = tx [105, 110, 32, 40])) (by simp <;> omega)
        obtain ⟨X3, y3, z3⟩ := cat y2 (Lib.hid (rfl : tx b = tx b)) (by simp <;> omega)
        obtain ⟨X4, y4, z4⟩ := cat y3 (Lib.hid (rfl : ⟨#[41]⟩ = tx [41])) (by simp <;> omega)
        have HA := Lib.hid (show Ending.returned (Value.string X4) = .returned (.string (tx s)) by rw [y4.out, ← HS.out]; rfl)
        clear hwd
        clear hla
        go_wp2_with (go_at_call 22; refine (not_ref _ _).mono ?_; rintro e w2 ⟨rfl, rfl⟩)
        go_quiet (fail)
        go_wp2_with fail
        go_ret
        exact ⟨HA.out, HF.out.drewN _⟩
      | @quant _ _ a b h =>
        rcases h with rfl | rfl
        · skip
          simp only [List.map_cons, List.map_nil, List.sum_cons, List.sum_nil, List.length_cons, List.length_nil] at hla
          obtain ⟨g, cp, rfl, k0, k1⟩ := row2 HO.out
          unfold strV at k0 k1
          have q0 := (hql [110, 117, 109]).trans (by decide : _ = false)
          have q1 := (hql [116, 101, 120, 116]).trans (by decide : _ = false)
          have q2 := (hql [110, 117, 108, 108]).trans (by decide : _ = false)
          have q3 := (hql [99, 111, 108, 117, 109, 110]).trans (by decide : _ = false)
          have q4 := (hql [110, 101, 103]).trans (by decide : _ = false)
          have q5 := (hql [99, 111, 117, 110, 116]).trans (by decide : _ = false)
          have q6 := (hql [115, 117, 109]).trans (by decide : _ = false)
          have q7 := (hql [109, 105, 110]).trans (by decide : _ = false)
          have q8 := (hql [109, 97, 120]).trans (by decide : _ = false)
          have q9 := (hql [110, 111, 116]).trans (by decide : _ = false)
          have q10 := (hql [101, 120, 105, 115, 116, 115]).trans (by decide : _ = false)
          have q11 := (hql [105, 115, 110, 117, 108, 108]).trans (by decide : _ = false)
          have q12 := (hql [105, 110]).trans (by decide : _ = false)
          have q13 := (hql [97, 110, 121]).trans (by decide : _ = true)
          clear hql
          obtain ⟨X0, y0, z0⟩ := cat (Lib.hid (rfl : tx a = tx a)) (Lib.hid (rfl : ⟨#[32]⟩ = tx [32])) (by simp <;> omega)
          obtain ⟨X1, y1, z1⟩ := cat y0 (Lib.hid (rfl : tx sg = tx sg)) (by simp <;> omega)
          obtain ⟨X2, y2, z2⟩ := cat y1 (Lib.hid (rfl : ⟨#[32]⟩ = tx [32])) (by simp <;> omega)
          obtain ⟨X3, y3, z3⟩ := cat y2 hK (by simp <;> omega)
          obtain ⟨X4, y4, z4⟩ := cat y3 (Lib.hid (rfl : ⟨#[32, 40]⟩ = tx [32, 40])) (by simp <;> omega)
          obtain ⟨X5, y5, z5⟩ := cat y4 (Lib.hid (rfl : tx b = tx b)) (by simp <;> omega)
          obtain ⟨X6, y6, z6⟩ := cat y5 (Lib.hid (rfl : ⟨#[41]⟩ = tx [41])) (by simp <;> omega)
          have HA := Lib.hid (show Ending.returned (Value.string X6) = .returned (.string (tx s)) by rw [y6.out, ← HS.out])
          clear hla
          go_wp2_with (go_at_call 22; refine (not_ref _ _).mono ?_; rintro e w2 ⟨rfl, rfl⟩)
          go_quiet (fail)
          go_wp2_with fail
          go_ret
          exact ⟨HA.out, HF.out.drewN _⟩
        · skip
          simp only [List.map_cons, List.map_nil, List.sum_cons, List.sum_nil, List.length_cons, List.length_nil] at hla
          obtain ⟨g, cp, rfl, k0, k1⟩ := row2 HO.out
          unfold strV at k0 k1
          have q0 := (hql [110, 117, 109]).trans (by decide : _ = false)
          have q1 := (hql [116, 101, 120, 116]).trans (by decide : _ = false)
          have q2 := (hql [110, 117, 108, 108]).trans (by decide : _ = false)
          have q3 := (hql [99, 111, 108, 117, 109, 110]).trans (by decide : _ = false)
          have q4 := (hql [110, 101, 103]).trans (by decide : _ = false)
          have q5 := (hql [99, 111, 117, 110, 116]).trans (by decide : _ = false)
          have q6 := (hql [115, 117, 109]).trans (by decide : _ = false)
          have q7 := (hql [109, 105, 110]).trans (by decide : _ = false)
          have q8 := (hql [109, 97, 120]).trans (by decide : _ = false)
          have q9 := (hql [110, 111, 116]).trans (by decide : _ = false)
          have q10 := (hql [101, 120, 105, 115, 116, 115]).trans (by decide : _ = false)
          have q11 := (hql [105, 115, 110, 117, 108, 108]).trans (by decide : _ = false)
          have q12 := (hql [105, 110]).trans (by decide : _ = false)
          have q13 := (hql [97, 110, 121]).trans (by decide : _ = false)
          have q14 := (hql [97, 108, 108]).trans (by decide : _ = true)
          clear hql
          obtain ⟨X0, y0, z0⟩ := cat (Lib.hid (rfl : tx a = tx a)) (Lib.hid (rfl : ⟨#[32]⟩ = tx [32])) (by simp <;> omega)
          obtain ⟨X1, y1, z1⟩ := cat y0 (Lib.hid (rfl : tx sg = tx sg)) (by simp <;> omega)
          obtain ⟨X2, y2, z2⟩ := cat y1 (Lib.hid (rfl : ⟨#[32]⟩ = tx [32])) (by simp <;> omega)
          obtain ⟨X3, y3, z3⟩ := cat y2 hK (by simp <;> omega)
          obtain ⟨X4, y4, z4⟩ := cat y3 (Lib.hid (rfl : ⟨#[32, 40]⟩ = tx [32, 40])) (by simp <;> omega)
          obtain ⟨X5, y5, z5⟩ := cat y4 (Lib.hid (rfl : tx b = tx b)) (by simp <;> omega)
          obtain ⟨X6, y6, z6⟩ := cat y5 (Lib.hid (rfl : ⟨#[41]⟩ = tx [41])) (by simp <;> omega)
          have HA := Lib.hid (show Ending.returned (Value.string X6) = .returned (.string (tx s)) by rw [y6.out, ← HS.out])
          clear hla
          go_wp2_with (go_at_call 22; refine (not_ref _ _).mono ?_; rintro e w2 ⟨rfl, rfl⟩)
          go_quiet (fail)
          go_wp2_with fail
          go_ret
          exact ⟨HA.out, HF.out.drewN _⟩
      | @cmp _ a b =>
        simp only [List.map_cons, List.map_nil, List.sum_cons, List.sum_nil, List.length_cons, List.length_nil] at hla
        obtain ⟨g, cp, rfl, k0, k1⟩ := row2 HO.out
        unfold strV at k0 k1
        have q0 := (hql [110, 117, 109]).trans (by decide : _ = false)
        have q1 := (hql [116, 101, 120, 116]).trans (by decide : _ = false)
        have q2 := (hql [110, 117, 108, 108]).trans (by decide : _ = false)
        have q3 := (hql [99, 111, 108, 117, 109, 110]).trans (by decide : _ = false)
        have q4 := (hql [110, 101, 103]).trans (by decide : _ = false)
        have q5 := (hql [99, 111, 117, 110, 116]).trans (by decide : _ = false)
        have q6 := (hql [115, 117, 109]).trans (by decide : _ = false)
        have q7 := (hql [109, 105, 110]).trans (by decide : _ = false)
        have q8 := (hql [109, 97, 120]).trans (by decide : _ = false)
        have q9 := (hql [110, 111, 116]).trans (by decide : _ = false)
        have q10 := (hql [101, 120, 105, 115, 116, 115]).trans (by decide : _ = false)
        have q11 := (hql [105, 115, 110, 117, 108, 108]).trans (by decide : _ = false)
        have q12 := (hql [105, 110]).trans (by decide : _ = false)
        have q13 := (hql [97, 110, 121]).trans (by decide : _ = false)
        have q14 := (hql [97, 108, 108]).trans (by decide : _ = false)
        have q15 := (hql [99, 111, 109, 112, 97, 114, 101]).trans (by decide : _ = true)
        clear hql
        obtain ⟨X0, y0, z0⟩ := cat (Lib.hid (rfl : tx a = tx a)) (Lib.hid (rfl : ⟨#[32]⟩ = tx [32])) (by simp <;> omega)
        obtain ⟨X1, y1, z1⟩ := cat y0 (Lib.hid (rfl : tx sg = tx sg)) (by simp <;> omega)
        obtain ⟨X2, y2, z2⟩ := cat y1 (Lib.hid (rfl : ⟨#[32]⟩ = tx [32])) (by simp <;> omega)
        obtain ⟨X3, y3, z3⟩ := cat y2 (Lib.hid (rfl : tx b = tx b)) (by simp <;> omega)
        have HA := Lib.hid (show Ending.returned (Value.string X3) = .returned (.string (tx s)) by rw [y3.out, ← HS.out])
        clear hla
        go_wp2_with (go_at_call 22; refine (not_ref _ _).mono ?_; rintro e w2 ⟨rfl, rfl⟩)
        go_quiet (fail)
        go_wp2_with fail
        go_ret
        exact ⟨HA.out, HF.out.drewN _⟩
end Go.Proofs.YtoephflcjllaaaaGreatDoor
