/- The reference's printer: Print at a tree that has but kids, part A; printed by gen_ud.py. -/
import Derived.Test.YtoephflcjllaaaaGreatDoorJ47
import Derived.Test.YtoephflcjllaaaaGreatDoorJ30
import Derived.Test.YtoephflcjllaaaaGreatDoorJ22
import Derived.BigQuiet
namespace Bags
/-- What a tree prints, by what stands in its cells and what its kids print. -/
inductive PKA : Str → Str → Str → Str → Str → Int → Bool → Bool → Bool → List Str → Str → Prop
  | num {n : Int} (h0 : -9223372036854775808 ≤ n) (h1 : n ≤ 9223372036854775807) : PKA [110, 117, 109] [] [] [] [] n false false false [] (decInt n)
  | text {s : Str} : PKA [116, 101, 120, 116] [] s [] [] 0 false false false [] (quote s)
  | null : PKA [110, 117, 108, 108] [] [] [] [] 0 false false false [] [110, 117, 108, 108]
  | col0 {n : Str} : PKA [99, 111, 108, 117, 109, 110] [] n [] [] 0 false false false [] n
  | col1 {o n : Str} (h : o ≠ []) : PKA [99, 111, 108, 117, 109, 110] [] n o [] 0 false false false [] (o ++ [46] ++ n)
  | neg {a : Str} : PKA [110, 101, 103] [] [] [] [] 0 false false false [a] ([40, 45] ++ a ++ [41])
  | agg0 : PKA [99, 111, 117, 110, 116] [] [] [] [] 0 true false false [] [99, 111, 117, 110, 116, 40, 42, 41]
  | not {a : Str} : PKA [110, 111, 116] [] [] [] [] 0 false false false [a] ([40, 110, 111, 116, 32] ++ a ++ [41])
  | exist {a : Str} : PKA [101, 120, 105, 115, 116, 115] [] [] [] [] 0 false false false [a] ([101, 120, 105, 115, 116, 115, 32, 40] ++ a ++ [41])
  | isnull {a : Str} {n : Bool} : PKA [105, 115, 110, 117, 108, 108] [] [] [] [] 0 false n false [a] (a ++ [32, 105, 115, 32] ++ (if n then [110, 111, 116, 32] else []) ++ [110, 117, 108, 108])
  | item {a s : Str} : PKA [105, 116, 101, 109] [] [] [] s 0 false false false [a] (named a s)
  | src {t s : Str} : PKA [115, 111, 117, 114, 99, 101] [] t [] s 0 false false false [] (named t s)
end Bags
namespace Go.Proofs.YtoephflcjllaaaaGreatDoor
open Go.RowKit

theorem keepT {w W : World} {b : Nat} {t : TypeId} {kd sg txt of_ as_ : Bags.Str} {nm : Int} {st nt al ds : Bool} {kids items from_ group wher having_ : Value}
    (hb : Blk w b t (treeC kd sg txt of_ as_ nm st nt al ds kids items from_ group wher having_)) (hF : Below w.heap.size w W) :
    W.cell? ⟨b, 0, none⟩ = some (.string (tx kd)) ∧ W.cell? ⟨b, 1, none⟩ = some (.string (tx sg)) ∧ W.cell? ⟨b, 2, none⟩ = some (.string (tx txt)) ∧ W.cell? ⟨b, 3, none⟩ = some (.string (tx of_)) ∧ W.cell? ⟨b, 4, none⟩ = some (.string (tx as_)) ∧
      W.cell? ⟨b, 5, none⟩ = some (.int .i64 nm) ∧ W.cell? ⟨b, 6, none⟩ = some (.bool st) ∧ W.cell? ⟨b, 7, none⟩ = some (.bool nt) ∧ W.cell? ⟨b, 8, none⟩ = some (.bool al) ∧ W.cell? ⟨b, 10, none⟩ = some kids := by
  have h := hb.later hF
  have c0 := h.cell 0
  have c1 := h.cell 1
  have c2 := h.cell 2
  have c3 := h.cell 3
  have c4 := h.cell 4
  have c5 := h.cell 5
  have c6 := h.cell 6
  have c7 := h.cell 7
  have c8 := h.cell 8
  have c10 := h.cell 10
  simp [treeC] at c0 c1 c2 c3 c4 c5 c6 c7 c8 c10
  exact ⟨c0, c1, c2, c3, c4, c5, c6, c7, c8, c10⟩
theorem as_same (s a : Bags.Str) (w : World) (hl : s.length + a.length ≤ 1099511627776) : Calls Tryz.prog 25 #[.string (tx s), .string (tx a)] w fun e w' => e = .returned (.string (tx (Bags.named s a))) ∧ w' = w :=
  (as_ref s a w hl).mono fun _ _ ⟨h1, h2⟩ => ⟨h1, h2.symm⟩
theorem kd_is {K : ByteArray} {kd : Bags.Str} (h : K = tx kd) (l : List UInt8) : (K.toList == l) = (kd == l) := by rw [h, bs_toList, bs_tx]
theorem row1 {w : World} {B n : Nat} {e : TypeId} {v x : Value} (h : w.ownsRow B e 1 v n [x]) : ∃ g cp, v = .slice (some ⟨g, 0, none⟩) 1 cp ∧ w.cell? ⟨g, 0, none⟩ = some x := by
  have hn : n = 1 := by have := h.1; simp at this; omega
  subst hn
  obtain ⟨ba, cap, rfl, _, _, hx⟩ := own_form h
  obtain ⟨g, rfl, _, _, hc⟩ := hx (by omega)
  exact ⟨g, cap, rfl, by simpa using hc 0 (by omega)⟩
theorem row2 {w : World} {B n : Nat} {e : TypeId} {v x y : Value} (h : w.ownsRow B e 1 v n [x, y]) : ∃ g cp, v = .slice (some ⟨g, 0, none⟩) 2 cp ∧ w.cell? ⟨g, 0, none⟩ = some x ∧ w.cell? ⟨g, 1, none⟩ = some y := by
  have hn : n = 2 := by have := h.1; simp at this; omega
  subst hn
  obtain ⟨ba, cap, rfl, _, _, hx⟩ := own_form h
  obtain ⟨g, rfl, _, _, hc⟩ := hx (by omega)
  exact ⟨g, cap, rfl, by simpa using hc 0 (by omega), by simpa using hc 1 (by omega)⟩

set_option maxRecDepth 100000 in
set_option maxHeartbeats 16000000 in
theorem nodeA_ref {B b : Nat} {t : TypeId} {kd sg txt of_ as_ : Bags.Str} {nm : Int} {st nt al : Bool} {v x1 x2 x3 x4 x5 : Value} {ks : List Nat} {ss : List Bags.Str} {s : Bags.Str} {w : World}
    (hb : Blk w b t (treeC kd sg txt of_ as_ nm st nt al false v x1 x2 x3 x4 x5)) (hk : kidsV w B v ks) (hss : ss.length = ks.length)
    (hc : ∀ (k : Nat) (h : k < ks.length) (h' : k < ss.length), RP w ks[k] ss[k]) (hp : Bags.PKA kd sg txt of_ as_ nm st nt al ss s)
    (hl : kd.length + sg.length + txt.length + of_.length + as_.length + (ss.map fun a => a.length + 2).sum ≤ 1099511627776) :
    Calls Tryz.prog 10 #[.pointer (some ⟨b, 0, none⟩)] w (PPost w s) := by
  have HC := Lib.hid hc
  have HK := Lib.hid hk
  have HB := Lib.hid hb
  have HL := Lib.hid hl
  obtain ⟨base, cap, rfl⟩ := kids_slice hk
  have hkn : ks.length ≤ 2 := by rw [← hss]; cases hp <;> simp
  have HP := Lib.hid hp
  obtain ⟨_, _, _, _, _, _, _, _, _, c10⟩ := keepT hb (Below.refl _ _)
  obtain ⟨K, hK⟩ : ∃ K, Hid (K = tx kd) := ⟨_, Lib.hid rfl⟩
  clear hc hk hb hp hl
  go_enter Tryz.func10, Tryz.ntmps10
  go_wp2_with fail
  go_loopw [3, 4] (fun kv iv wr => ∃ k : Nat, k ≤ ks.length ∧ iv = .int .i64 k ∧ wr.ownsRow w.heap.size 9 1 kv k ((ss.take k).map strV) ∧ Below w.heap.size w wr) (fun _ iv _ => ks.length - (intOf iv).toNat)
  case atStart => exact ⟨0, by omega, rfl, ⟨by simp, .inl ⟨rfl, rfl⟩⟩, Below.refl _ _⟩
  case round =>
    rename_i kv _ wr
    obtain ⟨k, hk, rfl, hown, hbl⟩ := hrel
    have hbs := hbl.size
    have HBL := Lib.hid hbl
    obtain ⟨c0, c1, c2, c3, c4, c5, c6, c7, c8, c10⟩ := keepT HB.out hbl
    rw [← hK.out] at c0
    clear hbl
    by_cases hlt : k < ks.length
    · have hlt' : (k : Int) < (ks.length : Int) := by omega
      have hks : k < ss.length := by omega
      obtain ⟨g, rfl⟩ := kids_base HK.out (by omega)
      have l0 := kids_cell (kids_fr HK.out (Fr.of_below HBL.out)) hlt
      have HR := Lib.hid (HC.out k hlt hks)
      have HT := Lib.hid (show (ss.take (k + 1)).map strV = (ss.take k).map strV ++ [.string (tx ss[k])] by rw [List.take_succ_eq_append_getElem hks, List.map_append]; rfl)
      clear c0 c1 c2 c3 c4 c5 c6 c7 c8
      go_wp2_with fail
      refine (HR.out _ (Fr.of_below HBL.out)).mono ?_
      rintro e w2 ⟨rfl, hF'⟩
      have hb2 := hF'.below (Nat.le_refl _) (fun _ h => h.elim)
      have hown2 := ownsRow_fr hown hF' (fun _ h => h.elim) (fun _ _ h => h)
      have hsz2 := hF'.size
      have HB2 := Lib.hid (HBL.out.trans (hb2.mono hbs))
      clear hF' hb2 hown
      go_wp2_with (at_builtin; refine wpList_append_one rfl _ _ rfl (base := w.heap.size) elem_strs rfl hown2 (cs := #[.string (tx ss[k])]) rfl rfl rfl (by simp [Value.oneCell']) (by unfold maxLen; omega) (by omega) (by omega) ?_; intro b' w1 hown1 hb1 _ hz1)
      exact ⟨⟨k + 1, by omega, by go_num, by rw [HT.out]; exact hown1, HB2.out.trans hb1⟩, by simp [intOf]; omega⟩
    · obtain rfl : k = ks.length := by omega
      rw [List.take_of_length_le (by omega)] at hown
      have HO := Lib.hid hown
      have HF := Lib.hid (Fr.of_below HBL.out : Fr (fun _ => False) w wr)
      clear hown
      obtain ⟨s', hp, HS⟩ : ∃ s', Bags.PKA kd sg txt of_ as_ nm st nt al ss s' ∧ Hid (s' = s) := ⟨_, HP.out, Lib.hid rfl⟩
      have hql := kd_is hK.out
      have hla := HL.out
      clear hbs hk hlt hss HP HL
      cases hp with
      | @num _ h0 h1 =>
        simp only [List.map_nil, List.sum_nil, List.length_cons, List.length_nil] at hla
        have q0 := (hql [110, 117, 109]).trans (by decide : _ = true)
        clear hql
        have HD := Lib.hid (fun W => decimal_ref nm h0 h1 W)
        clear h0 h1
        clear hla
        go_wp2_with (go_at_call 22; refine (not_ref _ _).mono ?_; rintro e w2 ⟨rfl, rfl⟩)
        refine (HD.out _).mono ?_
        rintro e w2 ⟨rfl, rfl⟩
        go_wp2_with fail
        go_ret
        exact ⟨congrArg (fun x => Ending.returned (.string (tx x))) HS.out, HF.out⟩
      | @text _ =>
        simp only [List.map_nil, List.sum_nil, List.length_cons, List.length_nil] at hla
        have q0 := (hql [110, 117, 109]).trans (by decide : _ = false)
        have q1 := (hql [116, 101, 120, 116]).trans (by decide : _ = true)
        clear hql
        have HD := Lib.hid (fun W => quote_ref (tx txt) W (by rw [tx_size]; omega))
        clear hla
        go_wp2_with (go_at_call 22; refine (not_ref _ _).mono ?_; rintro e w2 ⟨rfl, rfl⟩)
        refine (HD.out _).mono ?_
        rintro e w2 ⟨rfl, rfl⟩
        go_wp2_with fail
        go_ret
        exact ⟨congrArg (fun x => Ending.returned (.string (tx x))) HS.out, HF.out⟩
      | @null  =>
        simp only [List.map_nil, List.sum_nil, List.length_cons, List.length_nil] at hla
        have q0 := (hql [110, 117, 109]).trans (by decide : _ = false)
        have q1 := (hql [116, 101, 120, 116]).trans (by decide : _ = false)
        have q2 := (hql [110, 117, 108, 108]).trans (by decide : _ = true)
        clear hql
        clear hla
        go_wp2_with (go_at_call 22; refine (not_ref _ _).mono ?_; rintro e w2 ⟨rfl, rfl⟩)
        go_ret
        exact ⟨congrArg (fun x => Ending.returned (.string (tx x))) HS.out, HF.out⟩
      | @col0 _ =>
        simp only [List.map_nil, List.sum_nil, List.length_cons, List.length_nil] at hla
        have q0 := (hql [110, 117, 109]).trans (by decide : _ = false)
        have q1 := (hql [116, 101, 120, 116]).trans (by decide : _ = false)
        have q2 := (hql [110, 117, 108, 108]).trans (by decide : _ = false)
        have q3 := (hql [99, 111, 108, 117, 109, 110]).trans (by decide : _ = true)
        clear hql
        have t1 : (!(tx ([] : Bags.Str)).toList.isEmpty) = false := by simp [tx, ByteArray.toList_eq]
        clear hla
        go_wp2_with (go_at_call 22; refine (not_ref _ _).mono ?_; rintro e w2 ⟨rfl, rfl⟩)
        go_ret
        exact ⟨congrArg (fun x => Ending.returned (.string (tx x))) HS.out, HF.out⟩
      | @col1 _ _ h =>
        simp only [List.map_nil, List.sum_nil, List.length_cons, List.length_nil] at hla
        have q0 := (hql [110, 117, 109]).trans (by decide : _ = false)
        have q1 := (hql [116, 101, 120, 116]).trans (by decide : _ = false)
        have q2 := (hql [110, 117, 108, 108]).trans (by decide : _ = false)
        have q3 := (hql [99, 111, 108, 117, 109, 110]).trans (by decide : _ = true)
        clear hql
        have t1 : (!(tx of_).toList.isEmpty) = true := by
          cases of_ with
          | nil => exact absurd rfl h
          | cons a l => simp [tx, ByteArray.toList_eq]
        clear h
        obtain ⟨X0, y0, z0⟩ := cat (Lib.hid (rfl : tx of_ = tx of_)) (Lib.hid (rfl : ⟨#[46]⟩ = tx [46])) (by simp <;> omega)
        obtain ⟨X1, y1, z1⟩ := cat y0 (Lib.hid (rfl : tx txt = tx txt)) (by simp <;> omega)
        have HA := Lib.hid (show Ending.returned (Value.string X1) = .returned (.string (tx s)) by rw [y1.out, ← HS.out])
        clear hla
        go_wp2_with (go_at_call 22; refine (not_ref _ _).mono ?_; rintro e w2 ⟨rfl, rfl⟩)
        go_quiet (fail)
        go_wp2_with fail
        go_ret
        exact ⟨HA.out, HF.out.drewN _⟩
      | @neg a =>
        simp only [List.map_cons, List.map_nil, List.sum_cons, List.sum_nil, List.length_cons, List.length_nil] at hla
        obtain ⟨g, cp, rfl, k0⟩ := row1 HO.out
        unfold strV at k0
        have q0 := (hql [110, 117, 109]).trans (by decide : _ = false)
        have q1 := (hql [116, 101, 120, 116]).trans (by decide : _ = false)
        have q2 := (hql [110, 117, 108, 108]).trans (by decide : _ = false)
        have q3 := (hql [99, 111, 108, 117, 109, 110]).trans (by decide : _ = false)
        have q4 := (hql [110, 101, 103]).trans (by decide : _ = true)
        clear hql
        obtain ⟨X0, y0, z0⟩ := cat (Lib.hid (rfl : ⟨#[40, 45]⟩ = tx [40, 45])) (Lib.hid (rfl : tx a = tx a)) (by simp <;> omega)
        obtain ⟨X1, y1, z1⟩ := cat y0 (Lib.hid (rfl : ⟨#[41]⟩ = tx [41])) (by simp <;> omega)
        have HA := Lib.hid (show Ending.returned (Value.string X1) = .returned (.string (tx s)) by rw [y1.out, ← HS.out])
        clear hla
        go_wp2_with (go_at_call 22; refine (not_ref _ _).mono ?_; rintro e w2 ⟨rfl, rfl⟩)
        go_ret
        exact ⟨HA.out, HF.out⟩
      | @agg0  =>
        simp only [List.map_nil, List.sum_nil, List.length_cons, List.length_nil] at hla
        have q0 := (hql [110, 117, 109]).trans (by decide : _ = false)
        have q1 := (hql [116, 101, 120, 116]).trans (by decide : _ = false)
        have q2 := (hql [110, 117, 108, 108]).trans (by decide : _ = false)
        have q3 := (hql [99, 111, 108, 117, 109, 110]).trans (by decide : _ = false)
        have q4 := (hql [110, 101, 103]).trans (by decide : _ = false)
        have q5 := (hql [99, 111, 117, 110, 116]).trans (by decide : _ = true)
        clear hql
        clear hla
        go_wp2_with (go_at_call 22; refine (not_ref _ _).mono ?_; rintro e w2 ⟨rfl, rfl⟩)
        go_ret
        exact ⟨congrArg (fun x => Ending.returned (.string (tx x))) HS.out, HF.out⟩
      | @not a =>
        simp only [List.map_cons, List.map_nil, List.sum_cons, List.sum_nil, List.length_cons, List.length_nil] at hla
        obtain ⟨g, cp, rfl, k0⟩ := row1 HO.out
        unfold strV at k0
        have q0 := (hql [110, 117, 109]).trans (by decide : _ = false)
        have q1 := (hql [116, 101, 120, 116]).trans (by decide : _ = false)
        have q2 := (hql [110, 117, 108, 108]).trans (by decide : _ = false)
        have q3 := (hql [99, 111, 108, 117, 109, 110]).trans (by decide : _ = false)
        have q4 := (hql [110, 101, 103]).trans (by decide : _ = false)
        have q5 := (hql [99, 111, 117, 110, 116]).trans (by decide : _ = false)
        have q6 := (hql [115, 117, 109]).trans (by decide : _ = false)
        have q7 := (hql [109, 105, 110]).trans (by decide : _ = false)
        have q8 := (hql [109, 97, 120]).trans (by decide : _ = false)
        have q9 := (hql [110, 111, 116]).trans (by decide : _ = true)
        clear hql
        obtain ⟨X0, y0, z0⟩ := cat (Lib.hid (rfl : ⟨#[40, 110, 111, 116, 32]⟩ = tx [40, 110, 111, 116, 32])) (Lib.hid (rfl : tx a = tx a)) (by simp <;> omega)
        obtain ⟨X1, y1, z1⟩ := cat y0 (Lib.hid (rfl : ⟨#[41]⟩ = tx [41])) (by simp <;> omega)
        have HA := Lib.hid (show Ending.returned (Value.string X1) = .returned (.string (tx s)) by rw [y1.out, ← HS.out])
        clear hla
        go_wp2_with (go_at_call 22; refine (not_ref _ _).mono ?_; rintro e w2 ⟨rfl, rfl⟩)
        go_ret
        exact ⟨HA.out, HF.out⟩
      | @exist a =>
        simp only [List.map_cons, List.map_nil, List.sum_cons, List.sum_nil, List.length_cons, List.length_nil] at hla
        obtain ⟨g, cp, rfl, k0⟩ := row1 HO.out
        unfold strV at k0
        have q0 := (hql [110, 117, 109]).trans (by decide : _ = false)
        have q1 := (hql [116, 101, 120, 116]).trans (by decide : _ = false)
        have q2 := (hql [110, 117, 108, 108]).trans (by decide : _ = false)
        have q3 := (hql [99, 111, 108, 117, 109, 110]).trans (by decide : _ = false)
        have q4 := (hql [110, 101, 103]).trans (by decide : _ = false)
        have q5 := (hql [99, 111, 117, 110, 116]).trans (by decide : _ = false)
        have q6 := (hql [115, 117, 109]).trans (by decide : _ = false)
        have q7 := (hql [109, 105, 110]).trans (by decide : _ = false)
        have q8 := (hql [109, 97, 120]).trans (by decide : _ = false)
        have q9 := (hql [110, 111, 116]).trans (by decide : _ = false)
        have q10 := (hql [101, 120, 105, 115, 116, 115]).trans (by decide : _ = true)
        clear hql
        obtain ⟨X0, y0, z0⟩ := cat (Lib.hid (rfl : ⟨#[101, 120, 105, 115, 116, 115, 32, 40]⟩ = tx [101, 120, 105, 115, 116, 115, 32, 40])) (Lib.hid (rfl : tx a = tx a)) (by simp <;> omega)
        obtain ⟨X1, y1, z1⟩ := cat y0 (Lib.hid (rfl : ⟨#[41]⟩ = tx [41])) (by simp <;> omega)
        have HA := Lib.hid (show Ending.returned (Value.string X1) = .returned (.string (tx s)) by rw [y1.out, ← HS.out])
        clear hla
        go_wp2_with (go_at_call 22; refine (not_ref _ _).mono ?_; rintro e w2 ⟨rfl, rfl⟩)
        go_ret
        exact ⟨HA.out, HF.out⟩
      | @isnull a _ =>
        simp only [List.map_cons, List.map_nil, List.sum_cons, List.sum_nil, List.length_cons, List.length_nil] at hla
        obtain ⟨g, cp, rfl, k0⟩ := row1 HO.out
        unfold strV at k0
        have q0 := (hql [110, 117, 109]).trans (by decide : _ = false)
        have q1 := (hql [116, 101, 120, 116]).trans (by decide : _ = false)
        have q2 := (hql [110, 117, 108, 108]).trans (by decide : _ = false)
        have q3 := (hql [99, 111, 108, 117, 109, 110]).trans (by decide : _ = false)
        have q4 := (hql [110, 101, 103]).trans (by decide : _ = false)
        have q5 := (hql [99, 111, 117, 110, 116]).trans (by decide : _ = false)
        have q6 := (hql [115, 117, 109]).trans (by decide : _ = false)
        have q7 := (hql [109, 105, 110]).trans (by decide : _ = false)
        have q8 := (hql [109, 97, 120]).trans (by decide : _ = false)
        have q9 := (hql [110, 111, 116]).trans (by decide : _ = false)
        have q10 := (hql [101, 120, 105, 115, 116, 115]).trans (by decide : _ = false)
        have q11 := (hql [105, 115, 110, 117, 108, 108]).trans (by decide : _ = true)
        clear hql
        have hwd := wd_len nt
        obtain ⟨X0, y0, z0⟩ := cat (Lib.hid (rfl : tx a = tx a)) (Lib.hid (rfl : ⟨#[32, 105, 115, 32]⟩ = tx [32, 105, 115, 32])) (by simp <;> omega)
        obtain ⟨X1, y1, z1⟩ := cat y0 (Lib.hid (rfl : tx (wd nt) = tx (wd nt))) (by simp <;> omega)
        obtain ⟨X2, y2, z2⟩ := cat y1 (Lib.hid (rfl : ⟨#[110, 117, 108, 108]⟩ = tx [110, 117, 108, 108])) (by simp <;> omega)
        have HA := Lib.hid (show Ending.returned (Value.string X2) = .returned (.string (tx s)) by rw [y2.out, ← HS.out]; rfl)
        clear hwd
        clear hla
        go_wp2_with (go_at_call 22; refine (not_ref _ _).mono ?_; rintro e w2 ⟨rfl, rfl⟩)
        go_ret
        exact ⟨HA.out, HF.out⟩
      | @item a _ =>
        simp only [List.map_cons, List.map_nil, List.sum_cons, List.sum_nil, List.length_cons, List.length_nil] at hla
        obtain ⟨g, cp, rfl, k0⟩ := row1 HO.out
        unfold strV at k0
        have q0 := (hql [110, 117, 109]).trans (by decide : _ = false)
        have q1 := (hql [116, 101, 120, 116]).trans (by decide : _ = false)
        have q2 := (hql [110, 117, 108, 108]).trans (by decide : _ = false)
        have q3 := (hql [99, 111, 108, 117, 109, 110]).trans (by decide : _ = false)
        have q4 := (hql [110, 101, 103]).trans (by decide : _ = false)
        have q5 := (hql [99, 111, 117, 110, 116]).trans (by decide : _ = false)
        have q6 := (hql [115, 117, 109]).trans (by decide : _ = false)
        have q7 := (hql [109, 105, 110]).trans (by decide : _ = false)
        have q8 := (hql [109, 97, 120]).trans (by decide : _ = false)
        have q9 := (hql [110, 111, 116]).trans (by decide : _ = false)
        have q10 := (hql [101, 120, 105, 115, 116, 115]).trans (by decide : _ = false)
        have q11 := (hql [105, 115, 110, 117, 108, 108]).trans (by decide : _ = false)
        have q12 := (hql [105, 110]).trans (by decide : _ = false)
        have q13 := (hql [97, 110, 121]).trans (by decide : _ = false)
        have q14 := (hql [97, 108, 108]).trans (by decide : _ = false)
        have q15 := (hql [99, 111, 109, 112, 97, 114, 101]).trans (by decide : _ = false)
        have q16 := (hql [105, 116, 101, 109]).trans (by decide : _ = true)
        clear hql
        have HD := Lib.hid (fun W => as_same a as_ W (by omega))
        clear hla
        go_wp2_with (go_at_call 22; refine (not_ref _ _).mono ?_; rintro e w2 ⟨rfl, rfl⟩)
        go_quiet ((go_at_call 25; refine Calls.quiet_of_same (HD.out _)))
        go_wp2_with fail
        go_ret
        exact ⟨congrArg (fun x => Ending.returned (.string (tx x))) HS.out, HF.out.drewN _⟩
      | @src _ _ =>
        simp only [List.map_nil, List.sum_nil, List.length_cons, List.length_nil] at hla
        have q0 := (hql [110, 117, 109]).trans (by decide : _ = false)
        have q1 := (hql [116, 101, 120, 116]).trans (by decide : _ = false)
        have q2 := (hql [110, 117, 108, 108]).trans (by decide : _ = false)
        have q3 := (hql [99, 111, 108, 117, 109, 110]).trans (by decide : _ = false)
        have q4 := (hql [110, 101, 103]).trans (by decide : _ = false)
        have q5 := (hql [99, 111, 117, 110, 116]).trans (by decide : _ = false)
        have q6 := (hql [115, 117, 109]).trans (by decide : _ = false)
        have q7 := (hql [109, 105, 110]).trans (by decide : _ = false)
        have q8 := (hql [109, 97, 120]).trans (by decide : _ = false)
        have q9 := (hql [110, 111, 116]).trans (by decide : _ = false)
        have q10 := (hql [101, 120, 105, 115, 116, 115]).trans (by decide : _ = false)
        have q11 := (hql [105, 115, 110, 117, 108, 108]).trans (by decide : _ = false)
        have q12 := (hql [105, 110]).trans (by decide : _ = false)
        have q13 := (hql [97, 110, 121]).trans (by decide : _ = false)
        have q14 := (hql [97, 108, 108]).trans (by decide : _ = false)
        have q15 := (hql [99, 111, 109, 112, 97, 114, 101]).trans (by decide : _ = false)
        have q16 := (hql [105, 116, 101, 109]).trans (by decide : _ = false)
        have q17 := (hql [115, 111, 117, 114, 99, 101]).trans (by decide : _ = true)
        clear hql
        have HD := Lib.hid (fun W => as_same txt as_ W (by omega))
        clear hla
        go_wp2_with (go_at_call 22; refine (not_ref _ _).mono ?_; rintro e w2 ⟨rfl, rfl⟩)
        go_quiet ((go_at_call 25; refine Calls.quiet_of_same (HD.out _)))
        go_wp2_with fail
        go_ret
        exact ⟨congrArg (fun x => Ending.returned (.string (tx x))) HS.out, HF.out.drewN _⟩
end Go.Proofs.YtoephflcjllaaaaGreatDoor
