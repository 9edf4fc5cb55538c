/- The print methods of the program: parts of one, two, three; printed by gen_tb.py. -/
import Derived.Test.YtoephflcjllaaaaGreatDoorJ07
import Derived.Deep.RegionHeld3
namespace Go.Proofs.YtoephflcjllaaaaGreatDoor
open Go.RowKit

theorem keep1 {w W : World} {b : Nat} {t : TypeId} {x0 : Value} (hb : Blk w b t #[x0]) (hF : Fr (fun _ => False) w W) :
    W.cell? ⟨b, 0, none⟩ = some x0 ∧ Fr (fun _ => False) w W := by
  have h := hb.fr hF (fun h => h)
  have c0 := h.cell 0
  simp at c0
  exact ⟨c0, hF⟩
theorem keep2 {w W : World} {b : Nat} {t : TypeId} {x0 x1 : Value} (hb : Blk w b t #[x0, x1]) (hF : Fr (fun _ => False) w W) :
    W.cell? ⟨b, 0, none⟩ = some x0 ∧ W.cell? ⟨b, 1, none⟩ = some x1 ∧ Fr (fun _ => False) w W := by
  have h := hb.fr hF (fun h => h)
  have c0 := h.cell 0
  have c1 := h.cell 1
  simp at c0 c1
  exact ⟨c0, c1, hF⟩
theorem keep3 {w W : World} {b : Nat} {t : TypeId} {x0 x1 x2 : Value} (hb : Blk w b t #[x0, x1, x2]) (hF : Fr (fun _ => False) w W) :
    W.cell? ⟨b, 0, none⟩ = some x0 ∧ W.cell? ⟨b, 1, none⟩ = some x1 ∧ W.cell? ⟨b, 2, none⟩ = some x2 ∧ Fr (fun _ => False) w W := by
  have h := hb.fr hF (fun h => h)
  have c0 := h.cell 0
  have c1 := h.cell 1
  have c2 := h.cell 2
  simp at c0 c1 c2
  exact ⟨c0, c1, c2, hF⟩
theorem keep4 {w W : World} {b : Nat} {t : TypeId} {x0 x1 x2 x3 : Value} (hb : Blk w b t #[x0, x1, x2, x3]) (hF : Fr (fun _ => False) w W) :
    W.cell? ⟨b, 0, none⟩ = some x0 ∧ W.cell? ⟨b, 1, none⟩ = some x1 ∧ W.cell? ⟨b, 2, none⟩ = some x2 ∧ W.cell? ⟨b, 3, none⟩ = some x3 ∧ Fr (fun _ => False) w W := by
  have h := hb.fr hF (fun h => h)
  have c0 := h.cell 0
  have c1 := h.cell 1
  have c2 := h.cell 2
  have c3 := h.cell 3
  simp at c0 c1 c2 c3
  exact ⟨c0, c1, c2, c3, hF⟩
theorem cat {x y : Bags.Str} {a b : ByteArray} (ha : Hid (a = tx x)) (hb : Hid (b = tx y)) (h : x.length + y.length ≤ 9223372036854775807) :
    ∃ A, Hid (A = tx (x ++ y)) ∧ ∀ W : World, (Op.stringOp .add a b).run Tryz.prog W = .ok (.string A) W := by
  have ha := ha.out
  have hb := hb.out
  subst ha hb
  exact ⟨_, Lib.hid rfl, fun W => (run_string_add_sum W (tx x) (tx y) (by rw [tx_size, tx_size]; exact h)).trans (by rw [tx_add])⟩

set_option maxRecDepth 100000 in
set_option maxHeartbeats 1000000 in
theorem neg_any {sa : Bags.Str} {xa : Value} {b : Nat} {t : TypeId} {w : World} (h : Blk w b t #[xa]) (ha : Prn w xa sa)
    (hl : sa.length ≤ 1099511627776) :
    Calls Tryz.prog 216 #[.pointer (some ⟨b, 0, none⟩)] w (PPost w ([40, 45] ++ sa ++ [41])) := by
  obtain ⟨tpa, va, fa, ua, rfl, naa, ma, ia, hca⟩ := ha
  have HB := Lib.hid h
  have Ha := Lib.hid hca
  obtain ⟨A1, a1, e1⟩ := cat (Lib.hid (rfl : ⟨#[40, 45]⟩ = tx [40, 45])) (Lib.hid (rfl : tx sa = tx sa)) (by simp; omega)
  obtain ⟨A2, a2, e2⟩ := cat a1 (Lib.hid (rfl : ⟨#[41]⟩ = tx [41])) (by simp; omega)
  clear hca
  have g := keep1 h (Fr.refl _ _)
  obtain ⟨c0, _⟩ := g
  clear h
  go_enter Tryz.func216, Tryz.ntmps216
  go_wp2_with fail
  refine (Ha.out _ (Fr.refl _ _)).mono ?_
  rintro e w2 ⟨rfl, hF⟩
  go_wp2_with fail
  go_ret
  exact ⟨congrArg (fun x => Ending.returned (.string x)) a2.out, hF⟩

set_option maxRecDepth 100000 in
set_option maxHeartbeats 1000000 in
theorem inv_any {sa : Bags.Str} {xa : Value} {b : Nat} {t : TypeId} {w : World} (h : Blk w b t #[xa]) (ha : Prn w xa sa)
    (hl : sa.length ≤ 1099511627776) :
    Calls Tryz.prog 213 #[.pointer (some ⟨b, 0, none⟩)] w (PPost w ([40, 110, 111, 116, 32] ++ sa ++ [41])) := by
  obtain ⟨tpa, va, fa, ua, rfl, naa, ma, ia, hca⟩ := ha
  have HB := Lib.hid h
  have Ha := Lib.hid hca
  obtain ⟨A1, a1, e1⟩ := cat (Lib.hid (rfl : ⟨#[40, 110, 111, 116, 32]⟩ = tx [40, 110, 111, 116, 32])) (Lib.hid (rfl : tx sa = tx sa)) (by simp; omega)
  obtain ⟨A2, a2, e2⟩ := cat a1 (Lib.hid (rfl : ⟨#[41]⟩ = tx [41])) (by simp; omega)
  clear hca
  have g := keep1 h (Fr.refl _ _)
  obtain ⟨c0, _⟩ := g
  clear h
  go_enter Tryz.func213, Tryz.ntmps213
  go_wp2_with fail
  refine (Ha.out _ (Fr.refl _ _)).mono ?_
  rintro e w2 ⟨rfl, hF⟩
  go_wp2_with fail
  go_ret
  exact ⟨congrArg (fun x => Ending.returned (.string x)) a2.out, hF⟩

set_option maxRecDepth 100000 in
set_option maxHeartbeats 1000000 in
theorem exi_any {sa : Bags.Str} {xa : Value} {b : Nat} {t : TypeId} {w : World} (h : Blk w b t #[xa]) (ha : Prn w xa sa)
    (hl : sa.length ≤ 1099511627776) :
    Calls Tryz.prog 221 #[.pointer (some ⟨b, 0, none⟩)] w (PPost w ([101, 120, 105, 115, 116, 115, 32, 40] ++ sa ++ [41])) := by
  obtain ⟨tpa, va, fa, ua, rfl, naa, ma, ia, hca⟩ := ha
  have HB := Lib.hid h
  have Ha := Lib.hid hca
  obtain ⟨A1, a1, e1⟩ := cat (Lib.hid (rfl : ⟨#[101, 120, 105, 115, 116, 115, 32, 40]⟩ = tx [101, 120, 105, 115, 116, 115, 32, 40])) (Lib.hid (rfl : tx sa = tx sa)) (by simp; omega)
  obtain ⟨A2, a2, e2⟩ := cat a1 (Lib.hid (rfl : ⟨#[41]⟩ = tx [41])) (by simp; omega)
  clear hca
  have g := keep1 h (Fr.refl _ _)
  obtain ⟨c0, _⟩ := g
  clear h
  go_enter Tryz.func221, Tryz.ntmps221
  go_wp2_with fail
  refine (Ha.out _ (Fr.refl _ _)).mono ?_
  rintro e w2 ⟨rfl, hF⟩
  go_wp2_with fail
  go_ret
  exact ⟨congrArg (fun x => Ending.returned (.string x)) a2.out, hF⟩

set_option maxRecDepth 100000 in
set_option maxHeartbeats 1000000 in
theorem twoE_any {s sa sb : Bags.Str} {xa xb : Value} {b : Nat} {t : TypeId} {w : World} (h : Blk w b t #[.string (tx s), xa, xb]) (ha : Prn w xa sa) (hb : Prn w xb sb)
    (hl : s.length + sa.length + sb.length ≤ 1099511627776) :
    Calls Tryz.prog 220 #[.pointer (some ⟨b, 0, none⟩)] w (PPost w ([40] ++ sa ++ [32] ++ s ++ [32] ++ sb ++ [41])) := by
  obtain ⟨tpa, va, fa, ua, rfl, naa, ma, ia, hca⟩ := ha
  obtain ⟨tpb, vb, fb, ub, rfl, nab, mb, ib, hcb⟩ := hb
  have HB := Lib.hid h
  have Ha := Lib.hid hca
  have Hb := Lib.hid hcb
  obtain ⟨A1, a1, e1⟩ := cat (Lib.hid (rfl : ⟨#[40]⟩ = tx [40])) (Lib.hid (rfl : tx sa = tx sa)) (by simp; omega)
  obtain ⟨A2, a2, e2⟩ := cat a1 (Lib.hid (rfl : ⟨#[32]⟩ = tx [32])) (by simp; omega)
  obtain ⟨A3, a3, e3⟩ := cat a2 (Lib.hid (rfl : tx s = tx s)) (by simp; omega)
  obtain ⟨A4, a4, e4⟩ := cat a3 (Lib.hid (rfl : ⟨#[32]⟩ = tx [32])) (by simp; omega)
  obtain ⟨A5, a5, e5⟩ := cat a4 (Lib.hid (rfl : tx sb = tx sb)) (by simp; omega)
  obtain ⟨A6, a6, e6⟩ := cat a5 (Lib.hid (rfl : ⟨#[41]⟩ = tx [41])) (by simp; omega)
  clear hca hcb
  clear h
  go_enter Tryz.func220, Tryz.ntmps220
  go_wp2_with fail
  go_region_held3 (fun w' => w'.cell? ⟨b, 0, none⟩ = some (.string (tx s)) ∧ w'.cell? ⟨b, 1, none⟩ = some (.iface tpa va) ∧ w'.cell? ⟨b, 2, none⟩ = some (.iface tpb vb) ∧ Fr (fun _ => False) w w')
    (first | exact keep3 HB.out (Fr.refl _ _).drew | (refine keep3 HB.out ?_; assumption))
    (first | (obtain ⟨_, _, _, hF⟩ := ‹_ ∧ _ ∧ _ ∧ Fr _ w _›; refine (Ha.out _ hF).mono ?_; rintro e w2 ⟨rfl, hF'⟩; have hF2 := Fr.trans hF hF' (fun _ _ h => h)) | (obtain ⟨_, _, _, hF⟩ := ‹_ ∧ _ ∧ _ ∧ Fr _ w _›; refine (Hb.out _ hF).mono ?_; rintro e w2 ⟨rfl, hF'⟩; have hF2 := Fr.trans hF hF' (fun _ _ h => h)))
  all_goals
    go_wp2_with fail
    go_ret
    refine ⟨congrArg (fun x => Ending.returned (.string x)) a6.out, ?_⟩
    assumption

set_option maxRecDepth 100000 in
set_option maxHeartbeats 1000000 in
theorem twoC_any {s sa sb : Bags.Str} {xa xb : Value} {b : Nat} {t : TypeId} {w : World} (h : Blk w b t #[.string (tx s), xa, xb]) (ha : Prn w xa sa) (hb : Prn w xb sb)
    (hl : s.length + sa.length + sb.length ≤ 1099511627776) :
    Calls Tryz.prog 214 #[.pointer (some ⟨b, 0, none⟩)] w (PPost w ([40] ++ sa ++ [32] ++ s ++ [32] ++ sb ++ [41])) := by
  obtain ⟨tpa, va, fa, ua, rfl, naa, ma, ia, hca⟩ := ha
  obtain ⟨tpb, vb, fb, ub, rfl, nab, mb, ib, hcb⟩ := hb
  have HB := Lib.hid h
  have Ha := Lib.hid hca
  have Hb := Lib.hid hcb
  obtain ⟨A1, a1, e1⟩ := cat (Lib.hid (rfl : ⟨#[40]⟩ = tx [40])) (Lib.hid (rfl : tx sa = tx sa)) (by simp; omega)
  obtain ⟨A2, a2, e2⟩ := cat a1 (Lib.hid (rfl : ⟨#[32]⟩ = tx [32])) (by simp; omega)
  obtain ⟨A3, a3, e3⟩ := cat a2 (Lib.hid (rfl : tx s = tx s)) (by simp; omega)
  obtain ⟨A4, a4, e4⟩ := cat a3 (Lib.hid (rfl : ⟨#[32]⟩ = tx [32])) (by simp; omega)
  obtain ⟨A5, a5, e5⟩ := cat a4 (Lib.hid (rfl : tx sb = tx sb)) (by simp; omega)
  obtain ⟨A6, a6, e6⟩ := cat a5 (Lib.hid (rfl : ⟨#[41]⟩ = tx [41])) (by simp; omega)
  clear hca hcb
  clear h
  go_enter Tryz.func214, Tryz.ntmps214
  go_wp2_with fail
  go_region_held3 (fun w' => w'.cell? ⟨b, 0, none⟩ = some (.string (tx s)) ∧ w'.cell? ⟨b, 1, none⟩ = some (.iface tpa va) ∧ w'.cell? ⟨b, 2, none⟩ = some (.iface tpb vb) ∧ Fr (fun _ => False) w w')
    (first | exact keep3 HB.out (Fr.refl _ _).drew | (refine keep3 HB.out ?_; assumption))
    (first | (obtain ⟨_, _, _, hF⟩ := ‹_ ∧ _ ∧ _ ∧ Fr _ w _›; refine (Ha.out _ hF).mono ?_; rintro e w2 ⟨rfl, hF'⟩; have hF2 := Fr.trans hF hF' (fun _ _ h => h)) | (obtain ⟨_, _, _, hF⟩ := ‹_ ∧ _ ∧ _ ∧ Fr _ w _›; refine (Hb.out _ hF).mono ?_; rintro e w2 ⟨rfl, hF'⟩; have hF2 := Fr.trans hF hF' (fun _ _ h => h)))
  all_goals
    go_wp2_with fail
    go_ret
    refine ⟨congrArg (fun x => Ending.returned (.string x)) a6.out, ?_⟩
    assumption

set_option maxRecDepth 100000 in
set_option maxHeartbeats 1000000 in
theorem twoQ_any {s sa sb : Bags.Str} {xa xb : Value} {b : Nat} {t : TypeId} {w : World} (h : Blk w b t #[.string (tx s), xa, xb]) (ha : Prn w xa sa) (hb : Prn w xb sb)
    (hl : s.length + sa.length + sb.length ≤ 1099511627776) :
    Calls Tryz.prog 200 #[.pointer (some ⟨b, 0, none⟩)] w (PPost w ([40] ++ sa ++ [32] ++ s ++ [32] ++ sb ++ [41])) := by
  obtain ⟨tpa, va, fa, ua, rfl, naa, ma, ia, hca⟩ := ha
  obtain ⟨tpb, vb, fb, ub, rfl, nab, mb, ib, hcb⟩ := hb
  have HB := Lib.hid h
  have Ha := Lib.hid hca
  have Hb := Lib.hid hcb
  obtain ⟨A1, a1, e1⟩ := cat (Lib.hid (rfl : ⟨#[40]⟩ = tx [40])) (Lib.hid (rfl : tx sa = tx sa)) (by simp; omega)
  obtain ⟨A2, a2, e2⟩ := cat a1 (Lib.hid (rfl : ⟨#[32]⟩ = tx [32])) (by simp; omega)
  obtain ⟨A3, a3, e3⟩ := cat a2 (Lib.hid (rfl : tx s = tx s)) (by simp; omega)
  obtain ⟨A4, a4, e4⟩ := cat a3 (Lib.hid (rfl : ⟨#[32]⟩ = tx [32])) (by simp; omega)
  obtain ⟨A5, a5, e5⟩ := cat a4 (Lib.hid (rfl : tx sb = tx sb)) (by simp; omega)
  obtain ⟨A6, a6, e6⟩ := cat a5 (Lib.hid (rfl : ⟨#[41]⟩ = tx [41])) (by simp; omega)
  clear hca hcb
  clear h
  go_enter Tryz.func200, Tryz.ntmps200
  go_wp2_with fail
  go_region_held3 (fun w' => w'.cell? ⟨b, 0, none⟩ = some (.string (tx s)) ∧ w'.cell? ⟨b, 1, none⟩ = some (.iface tpa va) ∧ w'.cell? ⟨b, 2, none⟩ = some (.iface tpb vb) ∧ Fr (fun _ => False) w w')
    (first | exact keep3 HB.out (Fr.refl _ _).drew | (refine keep3 HB.out ?_; assumption))
    (first | (obtain ⟨_, _, _, hF⟩ := ‹_ ∧ _ ∧ _ ∧ Fr _ w _›; refine (Ha.out _ hF).mono ?_; rintro e w2 ⟨rfl, hF'⟩; have hF2 := Fr.trans hF hF' (fun _ _ h => h)) | (obtain ⟨_, _, _, hF⟩ := ‹_ ∧ _ ∧ _ ∧ Fr _ w _›; refine (Hb.out _ hF).mono ?_; rintro e w2 ⟨rfl, hF'⟩; have hF2 := Fr.trans hF hF' (fun _ _ h => h)))
  all_goals
    go_wp2_with fail
    go_ret
    refine ⟨congrArg (fun x => Ending.returned (.string x)) a6.out, ?_⟩
    assumption

set_option maxRecDepth 100000 in
set_option maxHeartbeats 1000000 in
theorem cmp_any {s sa sb : Bags.Str} {xa xb : Value} {b : Nat} {t : TypeId} {w : World} (h : Blk w b t #[.string (tx s), xa, xb]) (ha : Prn w xa sa) (hb : Prn w xb sb)
    (hl : s.length + sa.length + sb.length ≤ 1099511627776) :
    Calls Tryz.prog 226 #[.pointer (some ⟨b, 0, none⟩)] w (PPost w (sa ++ [32] ++ s ++ [32] ++ sb)) := by
  obtain ⟨tpa, va, fa, ua, rfl, naa, ma, ia, hca⟩ := ha
  obtain ⟨tpb, vb, fb, ub, rfl, nab, mb, ib, hcb⟩ := hb
  have HB := Lib.hid h
  have Ha := Lib.hid hca
  have Hb := Lib.hid hcb
  obtain ⟨A1, a1, e1⟩ := cat (Lib.hid (rfl : tx sa = tx sa)) (Lib.hid (rfl : ⟨#[32]⟩ = tx [32])) (by simp; omega)
  obtain ⟨A2, a2, e2⟩ := cat a1 (Lib.hid (rfl : tx s = tx s)) (by simp; omega)
  obtain ⟨A3, a3, e3⟩ := cat a2 (Lib.hid (rfl : ⟨#[32]⟩ = tx [32])) (by simp; omega)
  obtain ⟨A4, a4, e4⟩ := cat a3 (Lib.hid (rfl : tx sb = tx sb)) (by simp; omega)
  clear hca hcb
  clear h
  go_enter Tryz.func226, Tryz.ntmps226
  go_wp2_with fail
  go_region_held3 (fun w' => w'.cell? ⟨b, 0, none⟩ = some (.string (tx s)) ∧ w'.cell? ⟨b, 1, none⟩ = some (.iface tpa va) ∧ w'.cell? ⟨b, 2, none⟩ = some (.iface tpb vb) ∧ Fr (fun _ => False) w w')
    (first | exact keep3 HB.out (Fr.refl _ _).drew | (refine keep3 HB.out ?_; assumption))
    (first | (obtain ⟨_, _, _, hF⟩ := ‹_ ∧ _ ∧ _ ∧ Fr _ w _›; refine (Ha.out _ hF).mono ?_; rintro e w2 ⟨rfl, hF'⟩; have hF2 := Fr.trans hF hF' (fun _ _ h => h)) | (obtain ⟨_, _, _, hF⟩ := ‹_ ∧ _ ∧ _ ∧ Fr _ w _›; refine (Hb.out _ hF).mono ?_; rintro e w2 ⟨rfl, hF'⟩; have hF2 := Fr.trans hF hF' (fun _ _ h => h)))
  all_goals
    go_wp2_with fail
    go_ret
    refine ⟨congrArg (fun x => Ending.returned (.string x)) a4.out, ?_⟩
    assumption

set_option maxRecDepth 100000 in
set_option maxHeartbeats 1000000 in
theorem quant_any {s z sa sb : Bags.Str} {xa xb : Value} {b : Nat} {t : TypeId} {w : World} (h : Blk w b t #[.string (tx s), .string (tx z), xa, xb]) (ha : Prn w xa sa) (hb : Prn w xb sb)
    (hl : s.length + z.length + sa.length + sb.length ≤ 1099511627776) :
    Calls Tryz.prog 225 #[.pointer (some ⟨b, 0, none⟩)] w (PPost w (sa ++ [32] ++ s ++ [32] ++ z ++ [32, 40] ++ sb ++ [41])) := by
  obtain ⟨tpa, va, fa, ua, rfl, naa, ma, ia, hca⟩ := ha
  obtain ⟨tpb, vb, fb, ub, rfl, nab, mb, ib, hcb⟩ := hb
  have HB := Lib.hid h
  have Ha := Lib.hid hca
  have Hb := Lib.hid hcb
  obtain ⟨A1, a1, e1⟩ := cat (Lib.hid (rfl : tx sa = tx sa)) (Lib.hid (rfl : ⟨#[32]⟩ = tx [32])) (by simp; omega)
  obtain ⟨A2, a2, e2⟩ := cat a1 (Lib.hid (rfl : tx s = tx s)) (by simp; omega)
  obtain ⟨A3, a3, e3⟩ := cat a2 (Lib.hid (rfl : ⟨#[32]⟩ = tx [32])) (by simp; omega)
  obtain ⟨A4, a4, e4⟩ := cat a3 (Lib.hid (rfl : tx z = tx z)) (by simp; omega)
  obtain ⟨A5, a5, e5⟩ := cat a4 (Lib.hid (rfl : ⟨#[32, 40]⟩ = tx [32, 40])) (by simp; omega)
  obtain ⟨A6, a6, e6⟩ := cat a5 (Lib.hid (rfl : tx sb = tx sb)) (by simp; omega)
  obtain ⟨A7, a7, e7⟩ := cat a6 (Lib.hid (rfl : ⟨#[41]⟩ = tx [41])) (by simp; omega)
  clear hca hcb
  clear h
  go_enter Tryz.func225, Tryz.ntmps225
  go_wp2_with fail
  go_region_held3 (fun w' => w'.cell? ⟨b, 0, none⟩ = some (.string (tx s)) ∧ w'.cell? ⟨b, 1, none⟩ = some (.string (tx z)) ∧ w'.cell? ⟨b, 2, none⟩ = some (.iface tpa va) ∧ w'.cell? ⟨b, 3, none⟩ = some (.iface tpb vb) ∧ Fr (fun _ => False) w w')
    (first | exact keep4 HB.out (Fr.refl _ _).drew | (refine keep4 HB.out ?_; assumption))
    (first | (obtain ⟨_, _, _, _, hF⟩ := ‹_ ∧ _ ∧ _ ∧ _ ∧ Fr _ w _›; refine (Ha.out _ hF).mono ?_; rintro e w2 ⟨rfl, hF'⟩; have hF2 := Fr.trans hF hF' (fun _ _ h => h)) | (obtain ⟨_, _, _, _, hF⟩ := ‹_ ∧ _ ∧ _ ∧ _ ∧ Fr _ w _›; refine (Hb.out _ hF).mono ?_; rintro e w2 ⟨rfl, hF'⟩; have hF2 := Fr.trans hF hF' (fun _ _ h => h)))
  all_goals
    go_wp2_with fail
    go_ret
    refine ⟨congrArg (fun x => Ending.returned (.string x)) a7.out, ?_⟩
    assumption

set_option maxRecDepth 100000 in
set_option maxHeartbeats 1000000 in
theorem isnull_any {sa : Bags.Str} {xa : Value} {b : Nat} {t : TypeId} {w : World} {n : Bool} (h : Blk w b t #[xa, .bool n]) (ha : Prn w xa sa)
    (hl : sa.length ≤ 1099511627776) :
    Calls Tryz.prog 222 #[.pointer (some ⟨b, 0, none⟩)] w (PPost w (sa ++ [32, 105, 115, 32] ++ (wd n) ++ [110, 117, 108, 108])) := by
  obtain ⟨tpa, va, fa, ua, rfl, naa, ma, ia, hca⟩ := ha
  have HB := Lib.hid h
  have Ha := Lib.hid hca
  have hwl := wd_len n
  have HW := Lib.hid (fun W => word_any b n W)
  obtain ⟨A1, a1, e1⟩ := cat (Lib.hid (rfl : tx sa = tx sa)) (Lib.hid (rfl : ⟨#[32, 105, 115, 32]⟩ = tx [32, 105, 115, 32])) (by simp; omega)
  obtain ⟨A2, a2, e2⟩ := cat a1 (Lib.hid (rfl : tx (wd n) = tx (wd n))) (by simp; omega)
  obtain ⟨A3, a3, e3⟩ := cat a2 (Lib.hid (rfl : ⟨#[110, 117, 108, 108]⟩ = tx [110, 117, 108, 108])) (by simp; omega)
  clear hca
  clear h
  go_enter Tryz.func222, Tryz.ntmps222
  go_wp2_with fail
  go_region_held3 (fun w' => w'.cell? ⟨b, 0, none⟩ = some (.iface tpa va) ∧ w'.cell? ⟨b, 1, none⟩ = some (.bool n) ∧ Fr (fun _ => False) w w')
    (first | exact keep2 HB.out (Fr.refl _ _).drew | (refine keep2 HB.out ?_; assumption))
    (first | (obtain ⟨_, _, hF⟩ := ‹_ ∧ _ ∧ Fr _ w _›; refine (Ha.out _ hF).mono ?_; rintro e w2 ⟨rfl, hF'⟩; have hF2 := Fr.trans hF hF' (fun _ _ h => h)) | (obtain ⟨_, hq, hF⟩ := ‹_ ∧ _ ∧ Fr _ w _›; refine (HW.out _ hq).mono ?_; rintro e w2 ⟨rfl, hw⟩; subst hw))
  all_goals
    go_wp2_with fail
    go_ret
    refine ⟨congrArg (fun x => Ending.returned (.string x)) a3.out, ?_⟩
    assumption

set_option maxRecDepth 100000 in
set_option maxHeartbeats 1000000 in
theorem isin_any {sa sb : Bags.Str} {xa xb : Value} {b : Nat} {t : TypeId} {w : World} {n : Bool} (h : Blk w b t #[xa, .bool n, xb]) (ha : Prn w xa sa) (hb : Prn w xb sb)
    (hl : sa.length + sb.length ≤ 1099511627776) :
    Calls Tryz.prog 224 #[.pointer (some ⟨b, 0, none⟩)] w (PPost w (sa ++ [32] ++ (wd n) ++ [105, 110, 32, 40] ++ sb ++ [41])) := by
  obtain ⟨tpa, va, fa, ua, rfl, naa, ma, ia, hca⟩ := ha
  obtain ⟨tpb, vb, fb, ub, rfl, nab, mb, ib, hcb⟩ := hb
  have HB := Lib.hid h
  have Ha := Lib.hid hca
  have Hb := Lib.hid hcb
  have hwl := wd_len n
  have HW := Lib.hid (fun W => word_any b n W)
  obtain ⟨A1, a1, e1⟩ := cat (Lib.hid (rfl : tx sa = tx sa)) (Lib.hid (rfl : ⟨#[32]⟩ = tx [32])) (by simp; omega)
  obtain ⟨A2, a2, e2⟩ := cat a1 (Lib.hid (rfl : tx (wd n) = tx (wd n))) (by simp; omega)
  obtain ⟨A3, a3, e3⟩ := cat a2 (Lib.hid (rfl : ⟨#[105, 110, 32, 40]⟩ = tx [105, 110, 32, 40])) (by simp; omega)
  obtain ⟨A4, a4, e4⟩ := cat a3 (Lib.hid (rfl : tx sb = tx sb)) (by simp; omega)
  obtain ⟨A5, a5, e5⟩ := cat a4 (Lib.hid (rfl : ⟨#[41]⟩ = tx [41])) (by simp; omega)
  clear hca hcb
  clear h
  go_enter Tryz.func224, Tryz.ntmps224
  go_wp2_with fail
  go_region_held3 (fun w' => w'.cell? ⟨b, 0, none⟩ = some (.iface tpa va) ∧ w'.cell? ⟨b, 1, none⟩ = some (.bool n) ∧ w'.cell? ⟨b, 2, none⟩ = some (.iface tpb vb) ∧ Fr (fun _ => False) w w')
    (first | exact keep3 HB.out (Fr.refl _ _).drew | (refine keep3 HB.out ?_; assumption))
    (first | (obtain ⟨_, _, _, hF⟩ := ‹_ ∧ _ ∧ _ ∧ Fr _ w _›; refine (Ha.out _ hF).mono ?_; rintro e w2 ⟨rfl, hF'⟩; have hF2 := Fr.trans hF hF' (fun _ _ h => h)) | (obtain ⟨_, _, _, hF⟩ := ‹_ ∧ _ ∧ _ ∧ Fr _ w _›; refine (Hb.out _ hF).mono ?_; rintro e w2 ⟨rfl, hF'⟩; have hF2 := Fr.trans hF hF' (fun _ _ h => h)) | (obtain ⟨_, hq, _, hF⟩ := ‹_ ∧ _ ∧ _ ∧ Fr _ w _›; refine (HW.out _ hq).mono ?_; rintro e w2 ⟨rfl, hw⟩; subst hw))
  all_goals
    go_wp2_with fail
    go_ret
    refine ⟨congrArg (fun x => Ending.returned (.string x)) a5.out, ?_⟩
    assumption

set_option maxRecDepth 100000 in
set_option maxHeartbeats 1000000 in
theorem aggr_any {s sa : Bags.Str} {xa : Value} {b : Nat} {t : TypeId} {w : World} (h : Blk w b t #[.string (tx s), xa]) (ha : Prn w xa sa)
    (hl : s.length + sa.length ≤ 1099511627776) :
    Calls Tryz.prog 219 #[.pointer (some ⟨b, 0, none⟩)] w (PPost w (s ++ [40] ++ sa ++ [41])) := by
  obtain ⟨tpa, va, fa, ua, rfl, naa, ma, ia, hca⟩ := ha
  have HB := Lib.hid h
  have Ha := Lib.hid hca
  obtain ⟨A1, a1, e1⟩ := cat (Lib.hid (rfl : tx s = tx s)) (Lib.hid (rfl : ⟨#[40]⟩ = tx [40])) (by simp; omega)
  obtain ⟨A2, a2, e2⟩ := cat a1 (Lib.hid (rfl : tx sa = tx sa)) (by simp; omega)
  obtain ⟨A3, a3, e3⟩ := cat a2 (Lib.hid (rfl : ⟨#[41]⟩ = tx [41])) (by simp; omega)
  clear hca
  have g := keep2 h (Fr.refl _ _)
  obtain ⟨c0, c1, _⟩ := g
  clear h
  go_enter Tryz.func219, Tryz.ntmps219
  go_wp2_with fail
  go_region_held3 (fun w' => w'.cell? ⟨b, 0, none⟩ = some (.string (tx s)) ∧ w'.cell? ⟨b, 1, none⟩ = some (.iface tpa va) ∧ Fr (fun _ => False) w w')
    (first | exact keep2 HB.out (Fr.refl _ _).drew | (refine keep2 HB.out ?_; assumption))
    (first | (obtain ⟨_, _, hF⟩ := ‹_ ∧ _ ∧ Fr _ w _›; refine (Ha.out _ hF).mono ?_; rintro e w2 ⟨rfl, hF'⟩; have hF2 := Fr.trans hF hF' (fun _ _ h => h)))
  all_goals
    go_wp2_with fail
    go_ret
    refine ⟨congrArg (fun x => Ending.returned (.string x)) a3.out, ?_⟩
    assumption
end Go.Proofs.YtoephflcjllaaaaGreatDoor
