/- The print methods of the program: the parts' laws; what a selection names. -/
import Derived.Test.YtoephflcjllaaaaGreatDoorJ08
import Derived.Laws.OwnMore
namespace Go.Proofs.YtoephflcjllaaaaGreatDoor
open Go.RowKit

theorem Prn.fr {w W : World} {x : Value} {s : Bags.Str} (h : Prn w x s) (hF : Fr (fun _ => False) w W) : Prn W x s := by
  obtain ⟨tp, v, f, u, h1, h2, h3, h4, h5⟩ := h
  exact ⟨tp, v, f, u, h1, h2, h3, h4, fun W' hF' => h5 W' (hF.trans hF' (fun _ _ h => h))⟩

set_option maxRecDepth 100000 in
set_option maxHeartbeats 1000000 in
theorem aggr0_any {s : Bags.Str} {b : Nat} {t : TypeId} {w : World} (h : Blk w b t #[.string (tx s), .nilIface]) (hl : s.length ≤ 1099511627776) :
    Calls Tryz.prog 219 #[.pointer (some ⟨b, 0, none⟩)] w (PPost w (s ++ [40, 42, 41])) := by
  obtain ⟨A1, a1, e1⟩ := cat (Lib.hid (rfl : tx s = tx s)) (Lib.hid (rfl : ⟨#[40, 42, 41]⟩ = tx [40, 42, 41])) (by simp; omega)
  have g := keep2 h (Fr.refl _ _)
  obtain ⟨c0, c1, _⟩ := g
  clear h
  go_enter Tryz.func219, Tryz.ntmps219
  go_wp2_with fail
  go_ret
  exact ⟨congrArg (fun x => Ending.returned (.string x)) a1.out, Fr.refl _ _⟩

section
variable {w : World} {P : Nat → Prop} {x y : Value} {s z sa sb : Bags.Str} {n : Bool}
theorem Prn.neg (h : Node w P 256 258 #[x] [y]) (hx : Prn w x sa) (hl : sa.length ≤ 1099511627776) : Prn w y ([40, 45] ++ sa ++ [41]) := by
  obtain ⟨b, _, h2, h3⟩ := h
  injection h2 with h2 _
  exact ⟨_, _, _, _, h2, n_negation _, p_negation _, i_negation, fun W hF => neg_any (h3.fr hF (fun h => h)) (hx.fr hF) hl⟩
theorem Prn.inv (h : Node w P 244 246 #[x] [y]) (hx : Prn w x sa) (hl : sa.length ≤ 1099511627776) : Prn w y ([40, 110, 111, 116, 32] ++ sa ++ [41]) := by
  obtain ⟨b, _, h2, h3⟩ := h
  injection h2 with h2 _
  exact ⟨_, _, _, _, h2, n_inverse _, p_inverse _, i_inverse, fun W hF => inv_any (h3.fr hF (fun h => h)) (hx.fr hF) hl⟩
theorem Prn.exi (h : Node w P 270 272 #[x] [y]) (hx : Prn w x sa) (hl : sa.length ≤ 1099511627776) : Prn w y ([101, 120, 105, 115, 116, 115, 32, 40] ++ sa ++ [41]) := by
  obtain ⟨b, _, h2, h3⟩ := h
  injection h2 with h2 _
  exact ⟨_, _, _, _, h2, n_exists _, p_exists _, i_exists, fun W hF => exi_any (h3.fr hF (fun h => h)) (hx.fr hF) hl⟩
variable {x1 x2 : Value}
theorem Prn.twoE (h : Node w P 265 269 #[.string (tx s), x1, x2] [y]) (hx : Prn w x1 sa) (hy : Prn w x2 sb) (hl : s.length + sa.length + sb.length ≤ 1099511627776) : Prn w y ([40] ++ sa ++ [32] ++ s ++ [32] ++ sb ++ [41]) := by
  obtain ⟨b, _, h2, h3⟩ := h
  injection h2 with h2 _
  exact ⟨_, _, _, _, h2, n_arithmetic _, p_arithmetic _, i_arithmetic, fun W hF => twoE_any (h3.fr hF (fun h => h)) (hx.fr hF) (hy.fr hF) hl⟩
theorem Prn.twoC (h : Node w P 247 251 #[.string (tx s), x1, x2] [y]) (hx : Prn w x1 sa) (hy : Prn w x2 sb) (hl : s.length + sa.length + sb.length ≤ 1099511627776) : Prn w y ([40] ++ sa ++ [32] ++ s ++ [32] ++ sb ++ [41]) := by
  obtain ⟨b, _, h2, h3⟩ := h
  injection h2 with h2 _
  exact ⟨_, _, _, _, h2, n_junction _, p_junction _, i_junction, fun W hF => twoC_any (h3.fr hF (fun h => h)) (hx.fr hF) (hy.fr hF) hl⟩
theorem Prn.twoQ (h : Node w P 179 183 #[.string (tx s), x1, x2] [y]) (hx : Prn w x1 sa) (hy : Prn w x2 sb) (hl : s.length + sa.length + sb.length ≤ 1099511627776) : Prn w y ([40] ++ sa ++ [32] ++ s ++ [32] ++ sb ++ [41]) := by
  obtain ⟨b, _, h2, h3⟩ := h
  injection h2 with h2 _
  exact ⟨_, _, _, _, h2, n_combined _, p_combined _, i_combined, fun W hF => twoQ_any (h3.fr hF (fun h => h)) (hx.fr hF) (hy.fr hF) hl⟩
theorem Prn.cmp (h : Node w P 284 285 #[.string (tx s), x1, x2] [y]) (hx : Prn w x1 sa) (hy : Prn w x2 sb) (hl : s.length + sa.length + sb.length ≤ 1099511627776) : Prn w y (sa ++ [32] ++ s ++ [32] ++ sb) := by
  obtain ⟨b, _, h2, h3⟩ := h
  injection h2 with h2 _
  exact ⟨_, _, _, _, h2, n_comparison _, p_comparison _, i_comparison, fun W hF => cmp_any (h3.fr hF (fun h => h)) (hx.fr hF) (hy.fr hF) hl⟩
theorem Prn.quant (h : Node w P 281 283 #[.string (tx s), .string (tx z), x1, x2] [y]) (hx : Prn w x1 sa) (hy : Prn w x2 sb) (hl : s.length + z.length + sa.length + sb.length ≤ 1099511627776) :
    Prn w y (sa ++ [32] ++ s ++ [32] ++ z ++ [32, 40] ++ sb ++ [41]) := by
  obtain ⟨b, _, h2, h3⟩ := h
  injection h2 with h2 _
  exact ⟨_, _, _, _, h2, n_quantified _, p_quantified _, i_quantified, fun W hF => quant_any (h3.fr hF (fun h => h)) (hx.fr hF) (hy.fr hF) hl⟩
theorem Prn.isnull (h : Node w P 273 277 #[x1, .bool n] [y]) (hx : Prn w x1 sa) (hl : sa.length ≤ 1099511627776) : Prn w y (sa ++ [32, 105, 115, 32] ++ (wd n) ++ [110, 117, 108, 108]) := by
  obtain ⟨b, _, h2, h3⟩ := h
  injection h2 with h2 _
  exact ⟨_, _, _, _, h2, n_isNull _, p_isNull _, i_isNull, fun W hF => isnull_any (h3.fr hF (fun h => h)) (hx.fr hF) hl⟩
theorem Prn.isin (h : Node w P 278 280 #[x1, .bool n, x2] [y]) (hx : Prn w x1 sa) (hy : Prn w x2 sb) (hl : sa.length + sb.length ≤ 1099511627776) : Prn w y (sa ++ [32] ++ (wd n) ++ [105, 110, 32, 40] ++ sb ++ [41]) := by
  obtain ⟨b, _, h2, h3⟩ := h
  injection h2 with h2 _
  exact ⟨_, _, _, _, h2, n_within _, p_within _, i_within, fun W hF => isin_any (h3.fr hF (fun h => h)) (hx.fr hF) (hy.fr hF) hl⟩
theorem Prn.aggr (h : Node w P 262 264 #[.string (tx s), x1] [y]) (hx : Prn w x1 sa) (hl : s.length + sa.length ≤ 1099511627776) : Prn w y (s ++ [40] ++ sa ++ [41]) := by
  obtain ⟨b, _, h2, h3⟩ := h
  injection h2 with h2 _
  exact ⟨_, _, _, _, h2, n_aggregate _, p_aggregate _, i_aggregate, fun W hF => aggr_any (h3.fr hF (fun h => h)) (hx.fr hF) hl⟩
theorem Prn.aggr0 (h : Node w P 262 264 #[.string (tx s), .nilIface] [y]) (hl : s.length ≤ 1099511627776) : Prn w y (s ++ [40, 42, 41]) := by
  obtain ⟨b, _, h2, h3⟩ := h
  injection h2 with h2 _
  exact ⟨_, _, _, _, h2, n_aggregate _, p_aggregate _, i_aggregate, fun W hF => aggr0_any (h3.fr hF (fun h => h)) hl⟩
theorem Prn.col (h : Node w P 211 229 #[.string (tx s), .string (tx z)] [y]) (hl : s.length + z.length ≤ 281474976710656) : Prn w y (Bags.T.col s z).print := by
  obtain ⟨b, _, h2, h3⟩ := h
  injection h2 with h2 _
  exact ⟨_, _, _, _, h2, n_column _, p_column _, i_column, fun W hF => columnP_any s z b W (h3.fr hF (fun h => h)) hl⟩
theorem Prn.null (h : Node w P 259 261 #[.iface 155 (.agg #[])] [y]) : Prn w y (Bags.str "null") := by
  obtain ⟨b, _, h2, h3⟩ := h
  injection h2 with h2 _
  exact ⟨_, _, _, _, h2, n_literal _, p_literal _, i_literal, fun W hF => literal_any _ _ _ _ b W (h3.fr hF (fun h => h)) (m_null _) in_null (null_any W)⟩
theorem Prn.text (h : Node w P 259 261 #[.iface 156 (.string (tx s))] [y]) (hl : s.length ≤ 1099511627776) : Prn w y (Bags.quote s) := by
  obtain ⟨b, _, h2, h3⟩ := h
  injection h2 with h2 _
  exact ⟨_, _, _, _, h2, n_literal _, p_literal _, i_literal, fun W hF => literal_any _ _ _ _ b W (h3.fr hF (fun h => h)) (m_text _) in_text (text_any (tx s) W hl)⟩
/-- The table of the powers of ten lies below, and stands. -/
def Tab (w : World) : Prop := ∀ W, Fr (fun _ => False) w W → Lib.TabIs Tryz.prog W "internal/strconv.uint64pow10" .u64 Lib.pow10Tab
theorem Prn.num {m : Int} (h : Node w P 259 261 #[.iface 159 (.int .i64 m)] [y]) (h0 : -9223372036854775808 ≤ m) (h1 : m ≤ 9223372036854775807) (ht : Tab w) : Prn w y (Bags.decInt m) := by
  obtain ⟨b, _, h2, h3⟩ := h
  injection h2 with h2 _
  exact ⟨_, _, _, _, h2, n_literal _, p_literal _, i_literal, fun W hF => literal_any _ _ _ _ b W (h3.fr hF (fun h => h)) (m_int _) in_int (int_any m h0 h1 W (ht W hF))⟩
end

set_option maxRecDepth 100000 in
set_option maxHeartbeats 1000000 in
theorem namedP_any (s a : Bags.Str) (w : World) (hl : s.length + a.length ≤ 1099511627776) :
    Calls Tryz.prog 204 #[.string (tx s), .string (tx a)] w fun e w' => e = .returned (.string (tx (Bags.named s a))) ∧ w' = w := by
  by_cases ha : a = []
  · have t1 : (!(tx a).toList.isEmpty) = false := by rw [ha]; simp [tx, ByteArray.toList_eq]
    have HA := Lib.hid ha
    clear ha
    go_enter Tryz.func204, Tryz.ntmps204
    go_wp2_with fail
    go_ret
    exact ⟨by simp [Bags.named, HA.out], rfl⟩
  · have t1 : (!(tx a).toList.isEmpty) = true := by
      cases a with
      | nil => exact absurd rfl ha
      | cons a l => simp [tx, ByteArray.toList_eq]
    have HA := Lib.hid ha
    clear ha
    obtain ⟨A1, a1, e1⟩ := cat (Lib.hid (rfl : tx s = tx s)) (Lib.hid (rfl : ⟨#[32, 97, 115, 32]⟩ = tx [32, 97, 115, 32])) (by simp; omega)
    obtain ⟨A2, a2, e2⟩ := cat a1 (Lib.hid (rfl : tx a = tx a)) (by simp; omega)
    go_enter Tryz.func204, Tryz.ntmps204
    go_wp2_with fail
    go_ret
    exact ⟨congrArg (fun x => Ending.returned (.string x)) (by rw [a2.out, Bags.named, if_neg HA.out]; rfl), rfl⟩
end Go.Proofs.YtoephflcjllaaaaGreatDoor
/- The print methods of the program: items and sources of a selection; lists. -/
namespace Go.Proofs.YtoephflcjllaaaaGreatDoor
open Go.RowKit

set_option maxRecDepth 100000 in
set_option maxHeartbeats 1000000 in
theorem itemP_any {x : Value} {sx a : Bags.Str} {w : World} (hx : Prn w x sx) (hl : sx.length + a.length ≤ 1099511627776) :
    Calls Tryz.prog 203 #[.agg #[x, .string (tx a)]] w (PPost w (Bags.named sx a)) := by
  have hF0 : Fr (fun _ => False) w (w.alloc (.cells #[x, .string (tx a)] 203)) := (Fr.refl _ _).alloc _
  obtain ⟨tpa, va, fa, ua, rfl, naa, ma, ia, hca⟩ := hx.fr hF0
  have HB := Lib.hid (Blk.made w 203 #[.iface tpa va, .string (tx a)])
  have Ha := Lib.hid hca
  have HN := Lib.hid (fun W => namedP_any sx a W hl)
  have HF0 := Lib.hid hF0
  clear hx hca hF0
  go_enter Tryz.func203, Tryz.ntmps203
  go_wp2_with fail
  generalize hW0 : w.alloc (.cells #[.iface tpa va, .string (tx a)] 203) = W0 at *
  clear hW0
  go_region_held3 (fun w' => w'.cell? ⟨w.heap.size, 0, none⟩ = some (.iface tpa va) ∧ w'.cell? ⟨w.heap.size, 1, none⟩ = some (.string (tx a)) ∧ Fr (fun _ => False) W0 w')
    (first | exact keep2 HB.out (Fr.refl _ _).drew | (refine keep2 HB.out ?_; assumption))
    (first | (obtain ⟨_, _, hF⟩ := ‹_ ∧ _ ∧ Fr _ W0 _›; refine (Ha.out _ hF).mono ?_; rintro e w2 ⟨rfl, hF'⟩; have hF2 := Fr.trans hF hF' (fun _ _ h => h)) | (refine (HN.out _).mono ?_; rintro e w2 ⟨rfl, hw⟩; subst hw))
  all_goals
    go_wp2_with fail
    go_ret
    refine ⟨rfl, HF0.out.trans ?_ (fun _ _ h => h)⟩
    assumption

set_option maxRecDepth 100000 in
set_option maxHeartbeats 1000000 in
theorem sourceP_any {s a : Bags.Str} {w : World} (hl : s.length + a.length ≤ 1099511627776) :
    Calls Tryz.prog 206 #[.agg #[.string (tx s), .string (tx a)]] w (PPost w (Bags.named s a)) := by
  have HN := Lib.hid (fun W => namedP_any s a W hl)
  go_enter Tryz.func206, Tryz.ntmps206
  go_wp2_with (go_at_call 204; refine (HN.out _).mono ?_; rintro e w2 ⟨rfl, hw⟩; subst hw)
  go_ret
  exact ⟨rfl, (Fr.refl _ _).alloc _⟩
end Go.Proofs.YtoephflcjllaaaaGreatDoor
/- The print methods of the program: lists; printed by gen_te.py. -/
namespace Bags
def joinC : List Str → Str
  | [] => []
  | [a] => a
  | a :: b :: l => a ++ [44, 32] ++ joinC (b :: l)
theorem joinC_snoc (x : Str) : ∀ l : List Str, l ≠ [] → joinC (l ++ [x]) = joinC l ++ [44, 32] ++ x
  | [], h => absurd rfl h
  | [a], _ => rfl
  | a :: b :: l, _ => by
    show a ++ [44, 32] ++ joinC ((b :: l) ++ [x]) = _
    rw [joinC_snoc x (b :: l) (by simp)]
    simp [joinC]
theorem joinC_first {l : List Str} (h : 0 < l.length) : joinC (l.take 0) ++ l[0] = joinC (l.take (0 + 1)) := by
  cases l with
  | nil => simp at h
  | cons a l => simp [joinC]
theorem joinC_next {l : List Str} {k : Nat} (h : k < l.length) (hk : k ≠ 0) : joinC (l.take k) ++ [44, 32] ++ l[k] = joinC (l.take (k + 1)) := by
  rw [List.take_succ_eq_append_getElem h, joinC_snoc]
  intro h'
  have := congrArg List.length h'
  rw [List.length_take, List.length_nil] at this
  omega
theorem joinC_len : ∀ l : List Str, (joinC l).length ≤ (l.map fun a => a.length + 2).sum
  | [] => by simp [joinC]
  | [a] => by simp [joinC]
  | a :: b :: l => by
    have := joinC_len (b :: l)
    simp [joinC] at *; omega
theorem sum_ge : ∀ l : List Str, l.length ≤ (l.map fun a => a.length + 2).sum
  | [] => by simp
  | a :: l => by have := sum_ge l; rw [List.map_cons, List.sum_cons, List.length_cons]; omega
theorem sum_take (f : Str → Nat) : ∀ (l : List Str) (k : Nat), ((l.take k).map f).sum ≤ (l.map f).sum
  | [], k => by simp
  | a :: l, 0 => by simp
  | a :: l, k + 1 => by have := sum_take f l k; rw [List.take_succ_cons, List.map_cons, List.map_cons, List.sum_cons, List.sum_cons]; omega
theorem sum_at (f : Str → Nat) : ∀ (l : List Str) (k : Nat) (h : k < l.length), ((l.take k).map f).sum + f l[k] ≤ (l.map f).sum
  | [], k, h => by simp at h
  | a :: l, 0, h => by simp
  | a :: l, k + 1, h => by have := sum_at f l k (by simp at h; omega); rw [List.take_succ_cons, List.map_cons, List.map_cons, List.sum_cons, List.sum_cons, List.getElem_cons_succ]; omega
end Bags
namespace Go.Proofs.YtoephflcjllaaaaGreatDoor
open Go.RowKit

theorem flat2 {α : Type} (f g : α → Value) : ∀ {l : List α} {k : Nat} (h : k < l.length), (l.flatMap fun q => [f q, g q])[k * 2]? = some (f l[k]) ∧ (l.flatMap fun q => [f q, g q])[k * 2 + 1]? = some (g l[k])
  | [], k, h => by simp at h
  | a :: l, 0, h => by simp
  | a :: l, k + 1, h => by
    have := flat2 f g (l := l) (k := k) (by simp at h; omega)
    rw [List.flatMap_cons, show (k + 1) * 2 = k * 2 + 2 by omega]
    simpa using this
theorem flat1m {α : Type} (f : α → Value) : ∀ l : List α, (l.flatMap fun q => [f q]) = l.map f
  | [] => rfl
  | a :: l => by rw [List.flatMap_cons, flat1m f l]; rfl
theorem flat1 {α : Type} (f : α → Value) {l : List α} {k : Nat} (h : k < l.length) : (l.flatMap fun q => [f q])[k]? = some (f l[k]) := by
  rw [flat1m]
  simp [h]

theorem listI_cell {w : World} {B g n cap : Nat} {ps : List (TypeId × Value × Bags.Str)} (h : w.ownsRow B 203 2 (.slice (some ⟨g, 0, none⟩) n cap) ps.length (ps.flatMap fun q => [.iface q.1 q.2.1, .string (tx q.2.2)])) {k : Nat} (hk : k < ps.length) :
    w.cell? ⟨g, k * 2, none⟩ = some (.iface ps[k].1 ps[k].2.1) ∧ w.cell? ⟨g, k * 2 + 1, none⟩ = some (.string (tx ps[k].2.2)) := by
  have hn : n = ps.length := by
    obtain ⟨h1, ⟨h2, h3⟩ | ⟨g', cap', cur, h2, _⟩⟩ := h
    · cases h2
    · injection h2
  subst hn
  exact ⟨(h.cellAt _ (by omega)).trans (flat2 _ _ hk).1, (h.cellAt _ (by omega)).trans (flat2 _ _ hk).2⟩
set_option maxRecDepth 100000 in
set_option maxHeartbeats 1000000 in
theorem listI_any {v : Value} {ps : List (TypeId × Value × Bags.Str)} {ss : List Bags.Str} {w : World} (hown : w.ownsRow 0 203 2 v ps.length (ps.flatMap fun q => [.iface q.1 q.2.1, .string (tx q.2.2)])) (hss : ss.length = ps.length)
    (hc : ∀ (k : Nat) (h : k < ps.length) (h' : k < ss.length) (W : World), Fr (fun _ => False) w W → Calls Tryz.prog 203 #[.agg #[.iface ps[k].1 ps[k].2.1, .string (tx ps[k].2.2)]] W (PPost W ss[k]))
    (hl : (ss.map fun a => a.length + 2).sum ≤ 1099511627776) :
    Calls Tryz.prog 202 #[v, .func (.func 203) #[] #[]] w (PPost w (Bags.joinC ss)) := by
  have HC := Lib.hid hc
  have HO := Lib.hid hown
  clear hc
  obtain ⟨base, cap, rfl⟩ : ∃ base cap, v = .slice base ps.length cap := by
    obtain ⟨h1, ⟨rfl, h2⟩ | ⟨g, cap, cur, rfl, _⟩⟩ := hown
    · exact ⟨none, 0, by rw [h2]⟩
    · exact ⟨_, _, rfl⟩
  clear hown
  go_enter Tryz.func202, Tryz.ntmps202
  go_wp2_with fail
  go_loopw [5, 10] (fun tv kv wr => ∃ k : Nat, k ≤ ps.length ∧ kv = .int .i64 k ∧ tv = .string (tx (Bags.joinC (ss.take k))) ∧ Fr (fun _ => False) w wr) (fun _ kv _ => ps.length - (intOf kv).toNat)
  case atStart => exact ⟨0, by omega, rfl, rfl, Fr.refl _ _⟩
  case round =>
    rename_i wr
    obtain ⟨k, hk, rfl, rfl, hF⟩ := hrel
    have HF := Lib.hid hF
    clear hF
    by_cases hlt : k < ps.length
    · have hlt' : (k : Int) < (ps.length : Int) := by omega
      have hk0 : (0 : Int) ≤ (k : Int) := by omega
      have hks : k < ss.length := by omega
      have hb1 := Bags.joinC_len (ss.take k)
      have hb2 := Bags.sum_at (fun a => a.length + 2) ss k hks
      obtain ⟨B1, b1, f1⟩ := cat (Lib.hid (rfl : tx (Bags.joinC (ss.take k)) = tx (Bags.joinC (ss.take k)))) (Lib.hid (rfl : ⟨#[44, 32]⟩ = tx [44, 32])) (by simp; omega)
      obtain ⟨B2, b2, f2⟩ := cat b1 (Lib.hid (rfl : tx ss[k] = tx ss[k])) (by simp; omega)
      obtain ⟨C2, c2, g2⟩ := cat (Lib.hid (rfl : tx (Bags.joinC (ss.take k)) = tx (Bags.joinC (ss.take k)))) (Lib.hid (rfl : tx ss[k] = tx ss[k])) (by omega)
      obtain ⟨a0, rfl⟩ : ∃ a0, base = some a0 := by
        obtain ⟨h1, ⟨h2, h3⟩ | ⟨g, cap', cur, h2, _⟩⟩ := HO.out
        · omega
        · injection h2 with h2; exact ⟨_, h2⟩
      obtain ⟨g, rfl⟩ : ∃ g, a0 = ⟨g, 0, none⟩ := by
        obtain ⟨h1, ⟨h2, h3⟩ | ⟨g, cap', cur, h2, _⟩⟩ := HO.out
        · omega
        · injection h2 with h2; injection h2 with h2; exact ⟨_, h2⟩
      have hcl := listI_cell (ownsRow_fr HO.out HF.out (fun _ h => h.elim) (fun _ _ h => h)) hlt
      obtain ⟨l0, l1⟩ := hcl
      have HK := Lib.hid (HC.out k hlt hks)
      have HLT := Lib.hid hlt
      have hkm : ps.length ≤ 1099511627776 := by have := Bags.sum_ge ss; omega
      by_cases hk1 : k = 0
      · have HR := Lib.hid (show Value.string C2 = .string (tx (Bags.joinC (ss.take (k + 1)))) by rw [c2.out]; subst hk1; rw [Bags.joinC_first hks])
        have hk2 : ¬ (0 : Int) < (k : Int) := by omega
        clear f1 f2 hb1 hb2 hk1
        go_wp2_with fail
        refine (HK.out _ (HF.out.alloc _)).mono ?_
        rintro e w2 ⟨rfl, hF'⟩
        have HF2 := Lib.hid ((HF.out.alloc _).trans hF' (fun _ _ h => h))
        clear hF'
        go_wp2_with fail
        go_roundw
        case rel => exact ⟨k + 1, HLT.out, by go_num, HR.out, HF2.out⟩
        case measure => have := HLT.out; simp [intOf]; omega
      · have HR := Lib.hid (show Value.string B2 = .string (tx (Bags.joinC (ss.take (k + 1)))) by rw [b2.out, Bags.joinC_next hks hk1])
        have hk2 : (0 : Int) < (k : Int) := by omega
        clear g2 hb1 hb2 hk1
        go_wp2_with fail
        refine (HK.out _ (HF.out.alloc _)).mono ?_
        rintro e w2 ⟨rfl, hF'⟩
        have HF2 := Lib.hid ((HF.out.alloc _).trans hF' (fun _ _ h => h))
        clear hF'
        go_wp2_with fail
        go_roundw
        case rel => exact ⟨k + 1, HLT.out, by go_num, HR.out, HF2.out⟩
        case measure => have := HLT.out; simp [intOf]; omega
    · obtain rfl : k = ps.length := by omega
      have HE := Lib.hid (show ss.take ps.length = ss by rw [← hss]; exact List.take_length)
      go_wp2_with fail
      go_ret
      exact ⟨congrArg (fun x => Ending.returned (.string (tx (Bags.joinC x)))) HE.out, HF.out⟩

theorem listS_cell {w : World} {B g n cap : Nat} {ps : List (Bags.Str × Bags.Str)} (h : w.ownsRow B 207 2 (.slice (some ⟨g, 0, none⟩) n cap) ps.length (ps.flatMap fun q => [.string (tx q.1), .string (tx q.2)])) {k : Nat} (hk : k < ps.length) :
    w.cell? ⟨g, k * 2, none⟩ = some (.string (tx ps[k].1)) ∧ w.cell? ⟨g, k * 2 + 1, none⟩ = some (.string (tx ps[k].2)) := by
  have hn : n = ps.length := by
    obtain ⟨h1, ⟨h2, h3⟩ | ⟨g', cap', cur, h2, _⟩⟩ := h
    · cases h2
    · injection h2
  subst hn
  exact ⟨(h.cellAt _ (by omega)).trans (flat2 _ _ hk).1, (h.cellAt _ (by omega)).trans (flat2 _ _ hk).2⟩
set_option maxRecDepth 100000 in
set_option maxHeartbeats 1000000 in
theorem listS_any {v : Value} {ps : List (Bags.Str × Bags.Str)} {ss : List Bags.Str} {w : World} (hown : w.ownsRow 0 207 2 v ps.length (ps.flatMap fun q => [.string (tx q.1), .string (tx q.2)])) (hss : ss.length = ps.length)
    (hc : ∀ (k : Nat) (h : k < ps.length) (h' : k < ss.length) (W : World), Fr (fun _ => False) w W → Calls Tryz.prog 206 #[.agg #[.string (tx ps[k].1), .string (tx ps[k].2)]] W (PPost W ss[k]))
    (hl : (ss.map fun a => a.length + 2).sum ≤ 1099511627776) :
    Calls Tryz.prog 205 #[v, .func (.func 206) #[] #[]] w (PPost w (Bags.joinC ss)) := by
  have HC := Lib.hid hc
  have HO := Lib.hid hown
  clear hc
  obtain ⟨base, cap, rfl⟩ : ∃ base cap, v = .slice base ps.length cap := by
    obtain ⟨h1, ⟨rfl, h2⟩ | ⟨g, cap, cur, rfl, _⟩⟩ := hown
    · exact ⟨none, 0, by rw [h2]⟩
    · exact ⟨_, _, rfl⟩
  clear hown
  go_enter Tryz.func205, Tryz.ntmps205
  go_wp2_with fail
  go_loopw [5, 10] (fun tv kv wr => ∃ k : Nat, k ≤ ps.length ∧ kv = .int .i64 k ∧ tv = .string (tx (Bags.joinC (ss.take k))) ∧ Fr (fun _ => False) w wr) (fun _ kv _ => ps.length - (intOf kv).toNat)
  case atStart => exact ⟨0, by omega, rfl, rfl, Fr.refl _ _⟩
  case round =>
    rename_i wr
    obtain ⟨k, hk, rfl, rfl, hF⟩ := hrel
    have HF := Lib.hid hF
    clear hF
    by_cases hlt : k < ps.length
    · have hlt' : (k : Int) < (ps.length : Int) := by omega
      have hk0 : (0 : Int) ≤ (k : Int) := by omega
      have hks : k < ss.length := by omega
      have hb1 := Bags.joinC_len (ss.take k)
      have hb2 := Bags.sum_at (fun a => a.length + 2) ss k hks
      obtain ⟨B1, b1, f1⟩ := cat (Lib.hid (rfl : tx (Bags.joinC (ss.take k)) = tx (Bags.joinC (ss.take k)))) (Lib.hid (rfl : ⟨#[44, 32]⟩ = tx [44, 32])) (by simp; omega)
      obtain ⟨B2, b2, f2⟩ := cat b1 (Lib.hid (rfl : tx ss[k] = tx ss[k])) (by simp; omega)
      obtain ⟨C2, c2, g2⟩ := cat (Lib.hid (rfl : tx (Bags.joinC (ss.take k)) = tx (Bags.joinC (ss.take k)))) (Lib.hid (rfl : tx ss[k] = tx ss[k])) (by omega)
      obtain ⟨a0, rfl⟩ : ∃ a0, base = some a0 := by
        obtain ⟨h1, ⟨h2, h3⟩ | ⟨g, cap', cur, h2, _⟩⟩ := HO.out
        · omega
        · injection h2 with h2; exact ⟨_, h2⟩
      obtain ⟨g, rfl⟩ : ∃ g, a0 = ⟨g, 0, none⟩ := by
        obtain ⟨h1, ⟨h2, h3⟩ | ⟨g, cap', cur, h2, _⟩⟩ := HO.out
        · omega
        · injection h2 with h2; injection h2 with h2; exact ⟨_, h2⟩
      have hcl := listS_cell (ownsRow_fr HO.out HF.out (fun _ h => h.elim) (fun _ _ h => h)) hlt
      obtain ⟨l0, l1⟩ := hcl
      have HK := Lib.hid (HC.out k hlt hks)
      have HLT := Lib.hid hlt
      have hkm : ps.length ≤ 1099511627776 := by have := Bags.sum_ge ss; omega
      by_cases hk1 : k = 0
      · have HR := Lib.hid (show Value.string C2 = .string (tx (Bags.joinC (ss.take (k + 1)))) by rw [c2.out]; subst hk1; rw [Bags.joinC_first hks])
        have hk2 : ¬ (0 : Int) < (k : Int) := by omega
        clear f1 f2 hb1 hb2 hk1
        go_wp2_with fail
        refine (HK.out _ (HF.out.alloc _)).mono ?_
        rintro e w2 ⟨rfl, hF'⟩
        have HF2 := Lib.hid ((HF.out.alloc _).trans hF' (fun _ _ h => h))
        clear hF'
        go_wp2_with fail
        go_roundw
        case rel => exact ⟨k + 1, HLT.out, by go_num, HR.out, HF2.out⟩
        case measure => have := HLT.out; simp [intOf]; omega
      · have HR := Lib.hid (show Value.string B2 = .string (tx (Bags.joinC (ss.take (k + 1)))) by rw [b2.out, Bags.joinC_next hks hk1])
        have hk2 : (0 : Int) < (k : Int) := by omega
        clear g2 hb1 hb2 hk1
        go_wp2_with fail
        refine (HK.out _ (HF.out.alloc _)).mono ?_
        rintro e w2 ⟨rfl, hF'⟩
        have HF2 := Lib.hid ((HF.out.alloc _).trans hF' (fun _ _ h => h))
        clear hF'
        go_wp2_with fail
        go_roundw
        case rel => exact ⟨k + 1, HLT.out, by go_num, HR.out, HF2.out⟩
        case measure => have := HLT.out; simp [intOf]; omega
    · obtain rfl : k = ps.length := by omega
      have HE := Lib.hid (show ss.take ps.length = ss by rw [← hss]; exact List.take_length)
      go_wp2_with fail
      go_ret
      exact ⟨congrArg (fun x => Ending.returned (.string (tx (Bags.joinC x)))) HE.out, HF.out⟩

theorem listC_cell {w : World} {B g n cap : Nat} {ps : List (Nat)} (h : w.ownsRow B 211 1 (.slice (some ⟨g, 0, none⟩) n cap) ps.length (ps.flatMap fun q => [.pointer (some ⟨q, 0, none⟩)])) {k : Nat} (hk : k < ps.length) :
    w.cell? ⟨g, k, none⟩ = some (.pointer (some ⟨ps[k], 0, none⟩)) := by
  have hn : n = ps.length := by
    obtain ⟨h1, ⟨h2, h3⟩ | ⟨g', cap', cur, h2, _⟩⟩ := h
    · cases h2
    · injection h2
  subst hn
  exact (h.cellAt _ (by omega)).trans (flat1 _ hk)
set_option maxRecDepth 100000 in
set_option maxHeartbeats 1000000 in
theorem listC_any {v : Value} {ps : List (Nat)} {ss : List Bags.Str} {w : World} (hown : w.ownsRow 0 211 1 v ps.length (ps.flatMap fun q => [.pointer (some ⟨q, 0, none⟩)])) (hss : ss.length = ps.length)
    (hc : ∀ (k : Nat) (h : k < ps.length) (h' : k < ss.length) (W : World), Fr (fun _ => False) w W → Calls Tryz.prog 208 #[.pointer (some ⟨ps[k], 0, none⟩)] W (PPost W ss[k]))
    (hl : (ss.map fun a => a.length + 2).sum ≤ 1099511627776) :
    Calls Tryz.prog 207 #[v, .func (.func 208) #[] #[]] w (PPost w (Bags.joinC ss)) := by
  have HC := Lib.hid hc
  have HO := Lib.hid hown
  clear hc
  obtain ⟨base, cap, rfl⟩ : ∃ base cap, v = .slice base ps.length cap := by
    obtain ⟨h1, ⟨rfl, h2⟩ | ⟨g, cap, cur, rfl, _⟩⟩ := hown
    · exact ⟨none, 0, by rw [h2]⟩
    · exact ⟨_, _, rfl⟩
  clear hown
  go_enter Tryz.func207, Tryz.ntmps207
  go_wp2_with fail
  go_loopw [5, 10] (fun tv kv wr => ∃ k : Nat, k ≤ ps.length ∧ kv = .int .i64 k ∧ tv = .string (tx (Bags.joinC (ss.take k))) ∧ Fr (fun _ => False) w wr) (fun _ kv _ => ps.length - (intOf kv).toNat)
  case atStart => exact ⟨0, by omega, rfl, rfl, Fr.refl _ _⟩
  case round =>
    rename_i wr
    obtain ⟨k, hk, rfl, rfl, hF⟩ := hrel
    have HF := Lib.hid hF
    clear hF
    by_cases hlt : k < ps.length
    · have hlt' : (k : Int) < (ps.length : Int) := by omega
      have hk0 : (0 : Int) ≤ (k : Int) := by omega
      have hks : k < ss.length := by omega
      have hb1 := Bags.joinC_len (ss.take k)
      have hb2 := Bags.sum_at (fun a => a.length + 2) ss k hks
      obtain ⟨B1, b1, f1⟩ := cat (Lib.hid (rfl : tx (Bags.joinC (ss.take k)) = tx (Bags.joinC (ss.take k)))) (Lib.hid (rfl : ⟨#[44, 32]⟩ = tx [44, 32])) (by simp; omega)
      obtain ⟨B2, b2, f2⟩ := cat b1 (Lib.hid (rfl : tx ss[k] = tx ss[k])) (by simp; omega)
      obtain ⟨C2, c2, g2⟩ := cat (Lib.hid (rfl : tx (Bags.joinC (ss.take k)) = tx (Bags.joinC (ss.take k)))) (Lib.hid (rfl : tx ss[k] = tx ss[k])) (by omega)
      obtain ⟨a0, rfl⟩ : ∃ a0, base = some a0 := by
        obtain ⟨h1, ⟨h2, h3⟩ | ⟨g, cap', cur, h2, _⟩⟩ := HO.out
        · omega
        · injection h2 with h2; exact ⟨_, h2⟩
      obtain ⟨g, rfl⟩ : ∃ g, a0 = ⟨g, 0, none⟩ := by
        obtain ⟨h1, ⟨h2, h3⟩ | ⟨g, cap', cur, h2, _⟩⟩ := HO.out
        · omega
        · injection h2 with h2; injection h2 with h2; exact ⟨_, h2⟩
      have hcl := listC_cell (ownsRow_fr HO.out HF.out (fun _ h => h.elim) (fun _ _ h => h)) hlt
      have l0 := hcl
      have HK := Lib.hid (HC.out k hlt hks)
      have HLT := Lib.hid hlt
      have hkm : ps.length ≤ 1099511627776 := by have := Bags.sum_ge ss; omega
      by_cases hk1 : k = 0
      · have HR := Lib.hid (show Value.string C2 = .string (tx (Bags.joinC (ss.take (k + 1)))) by rw [c2.out]; subst hk1; rw [Bags.joinC_first hks])
        have hk2 : ¬ (0 : Int) < (k : Int) := by omega
        clear f1 f2 hb1 hb2 hk1
        go_wp2_with fail
        refine (HK.out _ HF.out).mono ?_
        rintro e w2 ⟨rfl, hF'⟩
        have HF2 := Lib.hid (HF.out.trans hF' (fun _ _ h => h))
        clear hF'
        go_wp2_with fail
        go_roundw
        case rel => exact ⟨k + 1, HLT.out, by go_num, HR.out, HF2.out⟩
        case measure => have := HLT.out; simp [intOf]; omega
      · have HR := Lib.hid (show Value.string B2 = .string (tx (Bags.joinC (ss.take (k + 1)))) by rw [b2.out, Bags.joinC_next hks hk1])
        have hk2 : (0 : Int) < (k : Int) := by omega
        clear g2 hb1 hb2 hk1
        go_wp2_with fail
        refine (HK.out _ HF.out).mono ?_
        rintro e w2 ⟨rfl, hF'⟩
        have HF2 := Lib.hid (HF.out.trans hF' (fun _ _ h => h))
        clear hF'
        go_wp2_with fail
        go_roundw
        case rel => exact ⟨k + 1, HLT.out, by go_num, HR.out, HF2.out⟩
        case measure => have := HLT.out; simp [intOf]; omega
    · obtain rfl : k = ps.length := by omega
      have HE := Lib.hid (show ss.take ps.length = ss by rw [← hss]; exact List.take_length)
      go_wp2_with fail
      go_ret
      exact ⟨congrArg (fun x => Ending.returned (.string (tx (Bags.joinC x)))) HE.out, HF.out⟩
end Go.Proofs.YtoephflcjllaaaaGreatDoor
