/- Walks of the reference's cutter: look; is, whole. -/
import Derived.Test.YtoephflcjllaaaaGreatDoorJ38
namespace Go.Proofs.YtoephflcjllaaaaGreatDoor
open Go.RowKit

theorem IsRes.shape {c : Ctx} {k : Bags.K} {i j : Nat} {w w' : World} {e : Ending} (h : IsRes c k i j w e w') : ∃ q, e = .returned (.pointer q) := by
  obtain ⟨_, _, ⟨h, _⟩ | ⟨b, t, h, _⟩⟩ := h <;> exact ⟨_, h⟩
theorem sort_keyB (n : Nat) : ((sortB n).toList == (⟨#[107, 101, 121]⟩ : ByteArray).toList) = (n == 1) := by
  rw [bs_toList ⟨#[107, 101, 121]⟩]; exact sort_key n
theorem sort_signB (n : Nat) : ((sortB n).toList == (⟨#[115, 105, 103, 110]⟩ : ByteArray).toList) = (n == 5) := by
  rw [bs_toList ⟨#[115, 105, 103, 110]⟩]; exact sort_sign n
theorem IsRes.past {c : Ctx} {k : Bags.K} {i j : Nat} {w w0 w' : World} {e : Ending} (h : IsRes c k i j w0 e w') (hf : Fr (· = c.M) w w0) : IsRes c k i j w e w' := ⟨h.1, hf.trans h.2.1 (fun _ _ h => h), h.2.2⟩

set_option maxRecDepth 100000 in
set_option maxHeartbeats 4000000 in
theorem look_0 {c : Ctx} {i j : Nat} (hI : IsOK c (rank 0 i j)) (hij : i < j) (hj : j ≤ c.n) (w : World) (h : CS c w) :
    Calls Tryz.prog 66 #[.pointer (some ⟨c.C, 0, none⟩), .int .i64 0, .int .i64 i, .int .i64 j] w (IsRes c .query i j w) := by
  have hR : Calls Tryz.prog 84 #[.pointer (some ⟨c.C, 0, none⟩), .int .i64 i, .int .i64 j] w (IsRes c .query i j w) := query_ref hI hij hj (Nat.le_refl _) w h
  have HR := Lib.hid hR
  have HFA := Lib.hid (fun o => ((Fr.refl (· = c.M) w).alloc o))
  clear hR h hI
  go_enter Tryz.func66, Tryz.ntmps66
  go_wp2_with fail
  refine HR.out.mono ?_
  rintro e w1 hr
  obtain ⟨q, rfl⟩ := hr.shape
  have HX := Lib.hid hr
  clear hr
  go_wp2_with fail
  go_ret
  exact HX.out

set_option maxRecDepth 100000 in
set_option maxHeartbeats 4000000 in
theorem look_1 {c : Ctx} {i j : Nat} (hI : IsOK c (rank 1 i j)) (hij : i < j) (hj : j ≤ c.n) (w : World) (h : CS c w) :
    Calls Tryz.prog 66 #[.pointer (some ⟨c.C, 0, none⟩), .int .i64 1, .int .i64 i, .int .i64 j] w (IsRes c .core i j w) := by
  have hR : Calls Tryz.prog 85 #[.pointer (some ⟨c.C, 0, none⟩), .int .i64 i, .int .i64 j] w (IsRes c .core i j w) := core_ref hI hij hj (Nat.le_refl _) w h
  have HR := Lib.hid hR
  have HFA := Lib.hid (fun o => ((Fr.refl (· = c.M) w).alloc o))
  clear hR h hI
  go_enter Tryz.func66, Tryz.ntmps66
  go_wp2_with fail
  refine HR.out.mono ?_
  rintro e w1 hr
  obtain ⟨q, rfl⟩ := hr.shape
  have HX := Lib.hid hr
  clear hr
  go_wp2_with fail
  go_ret
  exact HX.out

set_option maxRecDepth 100000 in
set_option maxHeartbeats 4000000 in
theorem look_2 {c : Ctx} {i j : Nat} (hI : IsOK c (rank 2 i j)) (hij : i < j) (hj : j ≤ c.n) (w : World) (h : CS c w) :
    Calls Tryz.prog 66 #[.pointer (some ⟨c.C, 0, none⟩), .int .i64 2, .int .i64 i, .int .i64 j] w (IsRes c .tail i j w) := by
  have hR : Calls Tryz.prog 86 #[.pointer (some ⟨c.C, 0, none⟩), .int .i64 2, .int .i64 i, .int .i64 j] w (IsRes c .tail i j w) := tail_tail hI hij hj (Nat.le_refl _) w h
  have HR := Lib.hid hR
  have HFA := Lib.hid (fun o => ((Fr.refl (· = c.M) w).alloc o))
  clear hR h hI
  go_enter Tryz.func66, Tryz.ntmps66
  go_wp2_with fail
  refine HR.out.mono ?_
  rintro e w1 hr
  obtain ⟨q, rfl⟩ := hr.shape
  have HX := Lib.hid hr
  clear hr
  go_wp2_with fail
  go_ret
  exact HX.out

set_option maxRecDepth 100000 in
set_option maxHeartbeats 4000000 in
theorem look_3 {c : Ctx} {i j : Nat} (hI : IsOK c (rank 3 i j)) (hij : i < j) (hj : j ≤ c.n) (w : World) (h : CS c w) :
    Calls Tryz.prog 66 #[.pointer (some ⟨c.C, 0, none⟩), .int .i64 3, .int .i64 i, .int .i64 j] w (IsRes c .after i j w) := by
  have hR : Calls Tryz.prog 86 #[.pointer (some ⟨c.C, 0, none⟩), .int .i64 3, .int .i64 i, .int .i64 j] w (IsRes c .after i j w) := tail_after hI hij hj (Nat.le_refl _) w h
  have HR := Lib.hid hR
  have HFA := Lib.hid (fun o => ((Fr.refl (· = c.M) w).alloc o))
  clear hR h hI
  go_enter Tryz.func66, Tryz.ntmps66
  go_wp2_with fail
  refine HR.out.mono ?_
  rintro e w1 hr
  obtain ⟨q, rfl⟩ := hr.shape
  have HX := Lib.hid hr
  clear hr
  go_wp2_with fail
  go_ret
  exact HX.out

set_option maxRecDepth 100000 in
set_option maxHeartbeats 4000000 in
theorem look_4 {c : Ctx} {i j : Nat} (hI : IsOK c (rank 4 i j)) (hij : i < j) (hj : j ≤ c.n) (w : World) (h : CS c w) :
    Calls Tryz.prog 66 #[.pointer (some ⟨c.C, 0, none⟩), .int .i64 4, .int .i64 i, .int .i64 j] w (IsRes c .grouped i j w) := by
  have hR : Calls Tryz.prog 86 #[.pointer (some ⟨c.C, 0, none⟩), .int .i64 4, .int .i64 i, .int .i64 j] w (IsRes c .grouped i j w) := tail_grouped hI hij hj (Nat.le_refl _) w h
  have HR := Lib.hid hR
  have HFA := Lib.hid (fun o => ((Fr.refl (· = c.M) w).alloc o))
  clear hR h hI
  go_enter Tryz.func66, Tryz.ntmps66
  go_wp2_with fail
  refine HR.out.mono ?_
  rintro e w1 hr
  obtain ⟨q, rfl⟩ := hr.shape
  have HX := Lib.hid hr
  clear hr
  go_wp2_with fail
  go_ret
  exact HX.out

set_option maxRecDepth 100000 in
set_option maxHeartbeats 4000000 in
theorem look_5 {c : Ctx} {i j : Nat} (hI : IsOK c (rank 5 i j)) (hij : i < j) (hj : j ≤ c.n) (w : World) (h : CS c w) :
    Calls Tryz.prog 66 #[.pointer (some ⟨c.C, 0, none⟩), .int .i64 5, .int .i64 i, .int .i64 j] w (IsRes c .items i j w) := by
  have hR : Calls Tryz.prog 87 #[.pointer (some ⟨c.C, 0, none⟩), .int .i64 6, .int .i64 5, .int .i64 i, .int .i64 j] w (IsRes c .items i j w) := row_any hI (k := 5) (k' := 6) (by decide) (by decide) rfl (by decide) hij hj (Nat.le_refl _) w h
  have HR := Lib.hid hR
  have HFA := Lib.hid (fun o => ((Fr.refl (· = c.M) w).alloc o))
  clear hR h hI
  go_enter Tryz.func66, Tryz.ntmps66
  go_wp2_with fail
  refine HR.out.mono ?_
  rintro e w1 hr
  obtain ⟨q, rfl⟩ := hr.shape
  have HX := Lib.hid hr
  clear hr
  go_wp2_with fail
  go_ret
  exact HX.out

set_option maxRecDepth 100000 in
set_option maxHeartbeats 4000000 in
theorem look_7 {c : Ctx} {i j : Nat} (hI : IsOK c (rank 7 i j)) (hij : i < j) (hj : j ≤ c.n) (w : World) (h : CS c w) :
    Calls Tryz.prog 66 #[.pointer (some ⟨c.C, 0, none⟩), .int .i64 7, .int .i64 i, .int .i64 j] w (IsRes c .sources i j w) := by
  have hR : Calls Tryz.prog 87 #[.pointer (some ⟨c.C, 0, none⟩), .int .i64 8, .int .i64 7, .int .i64 i, .int .i64 j] w (IsRes c .sources i j w) := row_any hI (k := 7) (k' := 8) (by decide) (by decide) rfl (by decide) hij hj (Nat.le_refl _) w h
  have HR := Lib.hid hR
  have HFA := Lib.hid (fun o => ((Fr.refl (· = c.M) w).alloc o))
  clear hR h hI
  go_enter Tryz.func66, Tryz.ntmps66
  go_wp2_with fail
  refine HR.out.mono ?_
  rintro e w1 hr
  obtain ⟨q, rfl⟩ := hr.shape
  have HX := Lib.hid hr
  clear hr
  go_wp2_with fail
  go_ret
  exact HX.out

set_option maxRecDepth 100000 in
set_option maxHeartbeats 4000000 in
theorem look_9 {c : Ctx} {i j : Nat} (hI : IsOK c (rank 9 i j)) (hij : i < j) (hj : j ≤ c.n) (w : World) (h : CS c w) :
    Calls Tryz.prog 66 #[.pointer (some ⟨c.C, 0, none⟩), .int .i64 9, .int .i64 i, .int .i64 j] w (IsRes c .cols i j w) := by
  have hR : Calls Tryz.prog 87 #[.pointer (some ⟨c.C, 0, none⟩), .int .i64 10, .int .i64 9, .int .i64 i, .int .i64 j] w (IsRes c .cols i j w) := row_any hI (k := 9) (k' := 10) (by decide) (by decide) rfl (by decide) hij hj (Nat.le_refl _) w h
  have HR := Lib.hid hR
  have HFA := Lib.hid (fun o => ((Fr.refl (· = c.M) w).alloc o))
  clear hR h hI
  go_enter Tryz.func66, Tryz.ntmps66
  go_wp2_with fail
  refine HR.out.mono ?_
  rintro e w1 hr
  obtain ⟨q, rfl⟩ := hr.shape
  have HX := Lib.hid hr
  clear hr
  go_wp2_with fail
  go_ret
  exact HX.out

set_option maxRecDepth 100000 in
set_option maxHeartbeats 4000000 in
theorem look_6 {c : Ctx} {i j : Nat} (hI : IsOK c (rank 6 i j)) (hij : i < j) (hj : j ≤ c.n) (w : World) (h : CS c w) :
    Calls Tryz.prog 66 #[.pointer (some ⟨c.C, 0, none⟩), .int .i64 6, .int .i64 i, .int .i64 j] w (IsRes c .item i j w) := by
  have hR : Calls Tryz.prog 88 #[.pointer (some ⟨c.C, 0, none⟩), .int .i64 15, .int .i64 i, .int .i64 j] w (IsRes c .item i j w) := named_any hI hij hj (Nat.le_refl _) w h
  have HR := Lib.hid hR
  have HFA := Lib.hid (fun o => ((Fr.refl (· = c.M) w).alloc o))
  clear hR h hI
  go_enter Tryz.func66, Tryz.ntmps66
  go_wp2_with fail
  refine HR.out.mono ?_
  rintro e w1 hr
  obtain ⟨q, rfl⟩ := hr.shape
  have HX := Lib.hid hr
  clear hr
  go_wp2_with fail
  go_ret
  exact HX.out

set_option maxRecDepth 100000 in
set_option maxHeartbeats 4000000 in
theorem look_8 {c : Ctx} {i j : Nat} (_hI : IsOK c (rank 8 i j)) (hij : i < j) (hj : j ≤ c.n) (w : World) (h : CS c w) :
    Calls Tryz.prog 66 #[.pointer (some ⟨c.C, 0, none⟩), .int .i64 8, .int .i64 i, .int .i64 j] w (IsRes c .source i j w) := by
  have hR : Calls Tryz.prog 89 #[.pointer (some ⟨c.C, 0, none⟩), .int .i64 i, .int .i64 j] w (IsRes c .source i j w) := sourceR_any hij hj w h
  have HR := Lib.hid hR
  have HFA := Lib.hid (fun o => ((Fr.refl (· = c.M) w).alloc o))
  clear hR h _hI
  go_enter Tryz.func66, Tryz.ntmps66
  go_wp2_with fail
  refine HR.out.mono ?_
  rintro e w1 hr
  obtain ⟨q, rfl⟩ := hr.shape
  have HX := Lib.hid hr
  clear hr
  go_wp2_with fail
  go_ret
  exact HX.out

set_option maxRecDepth 100000 in
set_option maxHeartbeats 4000000 in
theorem look_10 {c : Ctx} {i j : Nat} (_hI : IsOK c (rank 10 i j)) (hij : i < j) (hj : j ≤ c.n) (w : World) (h : CS c w) :
    Calls Tryz.prog 66 #[.pointer (some ⟨c.C, 0, none⟩), .int .i64 10, .int .i64 i, .int .i64 j] w (IsRes c .col i j w) := by
  have hR : Calls Tryz.prog 90 #[.pointer (some ⟨c.C, 0, none⟩), .int .i64 i, .int .i64 j] w (IsRes c .col i j w) := columnR_any hij hj w h
  have HR := Lib.hid hR
  have HFA := Lib.hid (fun o => ((Fr.refl (· = c.M) w).alloc o))
  clear hR h _hI
  go_enter Tryz.func66, Tryz.ntmps66
  go_wp2_with fail
  refine HR.out.mono ?_
  rintro e w1 hr
  obtain ⟨q, rfl⟩ := hr.shape
  have HX := Lib.hid hr
  clear hr
  go_wp2_with fail
  go_ret
  exact HX.out

set_option maxRecDepth 100000 in
set_option maxHeartbeats 4000000 in
theorem look_11 {c : Ctx} {i j : Nat} (hI : IsOK c (rank 11 i j)) (hij : i < j) (hj : j ≤ c.n) (w : World) (h : CS c w) :
    Calls Tryz.prog 66 #[.pointer (some ⟨c.C, 0, none⟩), .int .i64 11, .int .i64 i, .int .i64 j] w (IsRes c .cond i j w) := by
  have hR : Calls Tryz.prog 91 #[.pointer (some ⟨c.C, 0, none⟩), .int .i64 11, .int .i64 12, .int .i64 i, .int .i64 j, .string ⟨#[107, 101, 121]⟩, .slice (some ⟨w.heap.size, 0, none⟩) 1 1] (w.alloc (.cells #[.string ⟨#[111, 114]⟩] 9)) (IsRes c .cond i j (w.alloc (.cells #[.string ⟨#[111, 114]⟩] 9))) := infix_any hI (k := 11) (k' := 12) (l := [Bags.str "or"]) (by decide) (by decide) rfl (by decide) hij hj (Nat.le_refl _) _ sort_keyB _ (h.alloc _) w.heap.size (Blk.made _ _ _) (by have := h.size; have := h.lt.2.2.1; omega) (by decide)
  have HR := Lib.hid hR
  have HFA := Lib.hid (fun o => ((Fr.refl (· = c.M) w).alloc o))
  clear hR h hI
  go_enter Tryz.func66, Tryz.ntmps66
  go_wp2_with fail
  refine HR.out.mono ?_
  rintro e w1 hr
  obtain ⟨q, rfl⟩ := hr.shape
  have HX := Lib.hid hr
  clear hr
  go_wp2_with fail
  go_ret
  exact HX.out.past (HFA.out _)

set_option maxRecDepth 100000 in
set_option maxHeartbeats 4000000 in
theorem look_12 {c : Ctx} {i j : Nat} (hI : IsOK c (rank 12 i j)) (hij : i < j) (hj : j ≤ c.n) (w : World) (h : CS c w) :
    Calls Tryz.prog 66 #[.pointer (some ⟨c.C, 0, none⟩), .int .i64 12, .int .i64 i, .int .i64 j] w (IsRes c .conj i j w) := by
  have hR : Calls Tryz.prog 91 #[.pointer (some ⟨c.C, 0, none⟩), .int .i64 12, .int .i64 13, .int .i64 i, .int .i64 j, .string ⟨#[107, 101, 121]⟩, .slice (some ⟨w.heap.size, 0, none⟩) 1 1] (w.alloc (.cells #[.string ⟨#[97, 110, 100]⟩] 9)) (IsRes c .conj i j (w.alloc (.cells #[.string ⟨#[97, 110, 100]⟩] 9))) := infix_any hI (k := 12) (k' := 13) (l := [Bags.str "and"]) (by decide) (by decide) rfl (by decide) hij hj (Nat.le_refl _) _ sort_keyB _ (h.alloc _) w.heap.size (Blk.made _ _ _) (by have := h.size; have := h.lt.2.2.1; omega) (by decide)
  have HR := Lib.hid hR
  have HFA := Lib.hid (fun o => ((Fr.refl (· = c.M) w).alloc o))
  clear hR h hI
  go_enter Tryz.func66, Tryz.ntmps66
  go_wp2_with fail
  refine HR.out.mono ?_
  rintro e w1 hr
  obtain ⟨q, rfl⟩ := hr.shape
  have HX := Lib.hid hr
  clear hr
  go_wp2_with fail
  go_ret
  exact HX.out.past (HFA.out _)

set_option maxRecDepth 100000 in
set_option maxHeartbeats 4000000 in
theorem look_15 {c : Ctx} {i j : Nat} (hI : IsOK c (rank 15 i j)) (hij : i < j) (hj : j ≤ c.n) (w : World) (h : CS c w) :
    Calls Tryz.prog 66 #[.pointer (some ⟨c.C, 0, none⟩), .int .i64 15, .int .i64 i, .int .i64 j] w (IsRes c .expr i j w) := by
  have hR : Calls Tryz.prog 91 #[.pointer (some ⟨c.C, 0, none⟩), .int .i64 15, .int .i64 16, .int .i64 i, .int .i64 j, .string ⟨#[115, 105, 103, 110]⟩, .slice (some ⟨w.heap.size, 0, none⟩) 2 2] (w.alloc (.cells #[.string ⟨#[43]⟩, .string ⟨#[45]⟩] 9)) (IsRes c .expr i j (w.alloc (.cells #[.string ⟨#[43]⟩, .string ⟨#[45]⟩] 9))) := infix_any hI (k := 15) (k' := 16) (l := Bags.adds) (by decide) (by decide) rfl (by decide) hij hj (Nat.le_refl _) _ sort_signB _ (h.alloc _) w.heap.size (Blk.made _ _ _) (by have := h.size; have := h.lt.2.2.1; omega) (by decide)
  have HR := Lib.hid hR
  have HFA := Lib.hid (fun o => ((Fr.refl (· = c.M) w).alloc o))
  clear hR h hI
  go_enter Tryz.func66, Tryz.ntmps66
  go_wp2_with fail
  refine HR.out.mono ?_
  rintro e w1 hr
  obtain ⟨q, rfl⟩ := hr.shape
  have HX := Lib.hid hr
  clear hr
  go_wp2_with fail
  go_ret
  exact HX.out.past (HFA.out _)

set_option maxRecDepth 100000 in
set_option maxHeartbeats 4000000 in
theorem look_16 {c : Ctx} {i j : Nat} (hI : IsOK c (rank 16 i j)) (hij : i < j) (hj : j ≤ c.n) (w : World) (h : CS c w) :
    Calls Tryz.prog 66 #[.pointer (some ⟨c.C, 0, none⟩), .int .i64 16, .int .i64 i, .int .i64 j] w (IsRes c .term i j w) := by
  have hR : Calls Tryz.prog 91 #[.pointer (some ⟨c.C, 0, none⟩), .int .i64 16, .int .i64 17, .int .i64 i, .int .i64 j, .string ⟨#[115, 105, 103, 110]⟩, .slice (some ⟨w.heap.size, 0, none⟩) 3 3] (w.alloc (.cells #[.string ⟨#[42]⟩, .string ⟨#[47]⟩, .string ⟨#[37]⟩] 9)) (IsRes c .term i j (w.alloc (.cells #[.string ⟨#[42]⟩, .string ⟨#[47]⟩, .string ⟨#[37]⟩] 9))) := infix_any hI (k := 16) (k' := 17) (l := Bags.muls) (by decide) (by decide) rfl (by decide) hij hj (Nat.le_refl _) _ sort_signB _ (h.alloc _) w.heap.size (Blk.made _ _ _) (by have := h.size; have := h.lt.2.2.1; omega) (by decide)
  have HR := Lib.hid hR
  have HFA := Lib.hid (fun o => ((Fr.refl (· = c.M) w).alloc o))
  clear hR h hI
  go_enter Tryz.func66, Tryz.ntmps66
  go_wp2_with fail
  refine HR.out.mono ?_
  rintro e w1 hr
  obtain ⟨q, rfl⟩ := hr.shape
  have HX := Lib.hid hr
  clear hr
  go_wp2_with fail
  go_ret
  exact HX.out.past (HFA.out _)

set_option maxRecDepth 100000 in
set_option maxHeartbeats 4000000 in
theorem look_14 {c : Ctx} {i j : Nat} (hI : IsOK c (rank 14 i j)) (hij : i < j) (hj : j ≤ c.n) (w : World) (h : CS c w) :
    Calls Tryz.prog 66 #[.pointer (some ⟨c.C, 0, none⟩), .int .i64 14, .int .i64 i, .int .i64 j] w (IsRes c .basic i j w) := by
  have hR : Calls Tryz.prog 93 #[.pointer (some ⟨c.C, 0, none⟩), .int .i64 i, .int .i64 j] w (IsRes c .basic i j w) := basic_ref hI hij hj (Nat.le_refl _) w h
  have HR := Lib.hid hR
  have HFA := Lib.hid (fun o => ((Fr.refl (· = c.M) w).alloc o))
  clear hR h hI
  go_enter Tryz.func66, Tryz.ntmps66
  go_wp2_with fail
  refine HR.out.mono ?_
  rintro e w1 hr
  obtain ⟨q, rfl⟩ := hr.shape
  have HX := Lib.hid hr
  clear hr
  go_wp2_with fail
  go_ret
  exact HX.out

set_option maxRecDepth 100000 in
set_option maxHeartbeats 4000000 in
theorem look_17 {c : Ctx} {i j : Nat} (hI : IsOK c (rank 17 i j)) (hij : i < j) (hj : j ≤ c.n) (w : World) (h : CS c w) :
    Calls Tryz.prog 66 #[.pointer (some ⟨c.C, 0, none⟩), .int .i64 17, .int .i64 i, .int .i64 j] w (IsRes c .factor i j w) := by
  have hR : Calls Tryz.prog 94 #[.pointer (some ⟨c.C, 0, none⟩), .int .i64 i, .int .i64 j] w (IsRes c .factor i j w) := factor_ref hI hij hj (Nat.le_refl _) w h
  have HR := Lib.hid hR
  have HFA := Lib.hid (fun o => ((Fr.refl (· = c.M) w).alloc o))
  clear hR h hI
  go_enter Tryz.func66, Tryz.ntmps66
  go_wp2_with fail
  refine HR.out.mono ?_
  rintro e w1 hr
  obtain ⟨q, rfl⟩ := hr.shape
  have HX := Lib.hid hr
  clear hr
  go_wp2_with fail
  go_ret
  exact HX.out

set_option maxRecDepth 100000 in
set_option maxHeartbeats 4000000 in
theorem look_13 {c : Ctx} {i j : Nat} (hI : IsOK c (rank 13 i j)) (hij : i < j) (hj : j ≤ c.n) (w : World) (h : CS c w) :
    Calls Tryz.prog 66 #[.pointer (some ⟨c.C, 0, none⟩), .int .i64 13, .int .i64 i, .int .i64 j] w (IsRes c .neg i j w) := by
  have hn := h.pos.2
  have hM := h.lt.2.2.1
  have hK := key_any c w h i ⟨#[110, 111, 116]⟩
  rw [← str_not] at hK
  unfold ptr at hK
  have HH := Lib.hid (Bags.Has.neg (ws := c.ws) (i := i) (j := j))
  have hR1 : Calls Tryz.prog 42 #[.pointer (some ⟨c.C, 0, none⟩), .int .i64 13, .int .i64 (i + 1 : Nat), .int .i64 j] w (IsRes c .neg (i + 1) j w) :=
    hI 13 (i + 1) j w (by decide) (rank_lt (by omega)) (by omega) (by omega) h
  rw [show ((i + 1 : Nat) : Int) = (i : Int) + 1 by omega] at hR1
  have hR2 : Calls Tryz.prog 42 #[.pointer (some ⟨c.C, 0, none⟩), .int .i64 14, .int .i64 i, .int .i64 j] w (IsRes c .basic i j w) :=
    hI 14 i j w (by decide) (rank_same (by decide)) (by omega) (by omega) h
  generalize hb : (Bags.wd c.ws i).is 1 [Bags.str "not"] = B at *
  have HB := Lib.hid hb
  have HK := Lib.hid hK
  have HR1 := Lib.hid hR1
  have HR2 := Lib.hid hR2
  clear hK hR1 hR2 h hI hb
  go_enter Tryz.func66, Tryz.ntmps66
  go_wp2_with fail
  refine HK.out.mono ?_
  rintro e w1 ⟨rfl, rfl⟩
  cases B
  · go_wp2_with fail
    refine HR2.out.mono ?_
    rintro e w1 ⟨hc, hf, ⟨rfl, hno⟩ | ⟨b, t, rfl, hb, ht, hd⟩⟩
    · have HX := Lib.hid (And.intro hc (And.intro hf hno))
      clear hc hf hno
      go_wp2_with fail
      go_ret
      exact .no HX.out.1 HX.out.2.1 (fun h => by
        rcases HH.out h with h | h
        · exact absurd h.1 (by decide)
        · exact HX.out.2.2 h.2)
    · have HX := Lib.hid (And.intro hc (And.intro hf (And.intro ht hd)))
      clear hc hf ht hd
      go_wp2_with fail
      go_ret
      exact ⟨HX.out.1, HX.out.2.1, .inr ⟨b, t, rfl, hb, HX.out.2.2.1, .n1 HX.out.2.2.2⟩⟩
  · go_wp2_with fail
    refine HR1.out.mono ?_
    rintro e w1 ⟨hc, hf, ⟨rfl, hno⟩ | ⟨b, t, rfl, hb, ht, hd⟩⟩
    · have HX := Lib.hid (And.intro hc (And.intro hf hno))
      clear hc hf hno
      go_wp2_with fail
      go_ret
      exact .no HX.out.1 HX.out.2.1 (fun h => by
        rcases HH.out h with h | h
        · exact HX.out.2.2 h.2
        · exact absurd h.1 (by decide))
    · have HX := Lib.hid (And.intro hc (And.intro hf (And.intro ht hd)))
      clear hc hf ht hd
      go_wp2_with fail
      go_ret
      exact IsRes.one HX.out.1 HX.out.2.1 (t := .not t) (kd := Bags.str "not") (sg := []) (txt := []) (of_ := []) (as_ := []) (nm := 0) (st := false) (nt := false) (al := false) rfl (fun w2 h2 hf2 => ⟨b, HX.out.2.2.1.fr hf2 hM, h2⟩) (.n2 HB.out HX.out.2.2.2)

theorem look_any {c : Ctx} {k i j : Nat} (hk : k < 18) (hI : IsOK c (rank k i j)) (hij : i < j) (hj : j ≤ c.n) (w : World) (h : CS c w) :
    Calls Tryz.prog 66 #[.pointer (some ⟨c.C, 0, none⟩), .int .i64 k, .int .i64 i, .int .i64 j] w (IsRes c (kOf k) i j w) := by
  match k, hk, hI with
  | 0, _, hI => exact look_0 hI hij hj w h
  | 1, _, hI => exact look_1 hI hij hj w h
  | 2, _, hI => exact look_2 hI hij hj w h
  | 3, _, hI => exact look_3 hI hij hj w h
  | 4, _, hI => exact look_4 hI hij hj w h
  | 5, _, hI => exact look_5 hI hij hj w h
  | 6, _, hI => exact look_6 hI hij hj w h
  | 7, _, hI => exact look_7 hI hij hj w h
  | 8, _, hI => exact look_8 hI hij hj w h
  | 9, _, hI => exact look_9 hI hij hj w h
  | 10, _, hI => exact look_10 hI hij hj w h
  | 11, _, hI => exact look_11 hI hij hj w h
  | 12, _, hI => exact look_12 hI hij hj w h
  | 13, _, hI => exact look_13 hI hij hj w h
  | 14, _, hI => exact look_14 hI hij hj w h
  | 15, _, hI => exact look_15 hI hij hj w h
  | 16, _, hI => exact look_16 hI hij hj w h
  | 17, _, hI => exact look_17 hI hij hj w h
  | n + 18, hk, _ => exact absurd hk (by omega)
theorem is_ok (c : Ctx) : ∀ N, IsOK c N
  | 0 => fun k i j w _ hr => absurd hr (Nat.not_lt_zero _)
  | N + 1 => fun k i j w hk hr hi hj h => by
    by_cases hn : i < j ∧ j ≤ c.n
    · exact is_step hk hn.1 hn.2 (fun W hW => look_any hk (fun k' i' j' w' hk' hr' => is_ok c N k' i' j' w' hk' (by omega)) hn.1 hn.2 W hW) w h
    · exact is_empty hn w h
end Go.Proofs.YtoephflcjllaaaaGreatDoor
