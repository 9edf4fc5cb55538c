/- Walks: errors.As and errors.Is of a fault. -/
import Derived.Test.YtoephflcjllaaaaGreatDoorPB
namespace Go.Proofs.YtoephflcjllaaaaGreatDoor
open Go.RowKit Go.Extern

theorem unwrap_any (b : Nat) (k p : Int) (w : World) (hb : Blk w b 75 #[.int .i64 k, .int .i64 p]) :
    Calls Tryz.prog 181 #[.pointer (some ⟨b, 0, none⟩)] w fun e w' => e = .returned (.iface 73 (.int .i64 k)) ∧ w = w' := by
  have c0 := hb.cell 0
  simp at c0
  go_enter Tryz.func181, Tryz.ntmps181
  go_wp2
  go_ret
  exact ⟨rfl, rfl⟩

set_option maxRecDepth 100000 in
set_option maxHeartbeats 2000000 in
theorem err_is (b : Nat) (k p n : Int) (w : World) (hb : Blk w b 75 #[.int .i64 k, .int .i64 p]) :
    Calls Tryz.prog 56 #[.iface 72 (.pointer (some ⟨b, 0, none⟩)), .iface 73 (.int .i64 n), .bool true] w fun e w' => e = .returned (.bool (k == n)) ∧ w = w' := by
  have HU := Lib.hid (unwrap_any b k p w hb)
  have n1 := r_noIs1
  have n2 := r_noIs2
  have u1 := r_unw1
  have u2 := r_unw2
  have v2 := r_unws2
  have mU := r_mUnw
  have eqE := r_eqE k n
  have hty := run_eql_iface_types (P := Tryz.prog) 72 73 (.pointer (some ⟨b, 0, none⟩)) (.int .i64 n) Tryz.underlying36 (by decide) w
  go_enter Tryz.func56, Tryz.ntmps56
  go_wp2_with fail
  refine wp_loop_rounds 2 ?_
  rw [rounds_succ]
  go_wp2_with fail
  refine HU.out.mono ?_
  rintro e w' ⟨rfl, rfl⟩
  by_cases hkn : k = n
  · subst hkn
    go_wp2_with fail
    rw [rounds_succ]
    go_wp2_with fail
    go_ret
    exact ⟨by simp [*], rfl⟩
  · have hb' : (k == n) = false := by simpa using hkn
    go_wp2_with fail
    rw [rounds_succ]
    go_wp2_with fail
    go_ret
    exact ⟨by simp [*], rfl⟩

set_option maxRecDepth 100000 in
set_option maxHeartbeats 2000000 in
theorem errors_is (b : Nat) (k p n : Int) (w : World) (hb : Blk w b 75 #[.int .i64 k, .int .i64 p]) :
    Calls Tryz.prog 32 #[.iface 72 (.pointer (some ⟨b, 0, none⟩)), .iface 73 (.int .i64 n)] w fun e w' => e = .returned (.bool (k == n)) ∧ w = w' := by
  have HI := Lib.hid (err_is b k p n w hb)
  have h1 := @run_callFunc_extern Tryz.prog 55 _ ReflectliteType.typeOf Tryz.func55 (by kernel_rfl) (by kernel_rfl) (by kernel_rfl) (by kernel_rfl)
  have h2 := @run_callFunc_extern Tryz.prog 191 _ (ReflectliteType.method fun t => do Rtype.noPackHeld "Comparable" t; pure (.bool (← typeInfo t).comparable)) Tryz.func191 (by kernel_rfl) (by kernel_rfl) (by kernel_rfl) (by kernel_rfl)
  have t2 := r_typeOf2
  have c2 := r_comp
  have m2 := r_mComp
  unfold rty at t2
  unfold hnd at c2
  go_enter Tryz.func32, Tryz.ntmps32
  go_wp2_with fail
  refine HI.out.mono ?_
  rintro e w' ⟨rfl, rfl⟩
  go_wp2_with fail
  go_ret
  exact ⟨rfl, rfl⟩

/-- What errors.As does: the variable holds the fault. -/
def AsDid (p b : Nat) (w : World) (e : Ending) (w' : World) : Prop := e = .returned (.bool true) ∧ Fr (· = p) w w' ∧ Blk w' p 72 #[.pointer (some ⟨b, 0, none⟩)]

set_option maxRecDepth 100000 in
set_option maxHeartbeats 2000000 in
theorem err_as (b p a : Nat) (old : Value) (w : World) (hp : Blk w p 72 #[old]) (ha : Blk w a 82 #[.pointer (some ⟨p, 0, none⟩)]) :
    Calls Tryz.prog 54 #[.iface 72 (.pointer (some ⟨b, 0, none⟩)), .iface 82 (.pointer (some ⟨p, 0, none⟩)), rval 82 ⟨a, 0, none⟩ 150, rty 72] w (AsDid p b w) := by
  have h1 := @run_callFunc_extern Tryz.prog 55 _ ReflectliteType.typeOf Tryz.func55 (by kernel_rfl) (by kernel_rfl) (by kernel_rfl) (by kernel_rfl)
  have h2 := @run_callFunc_extern Tryz.prog 190 _ (ReflectliteType.relation "AssignableTo" ReflectliteType.assignableTo) Tryz.func190 (by kernel_rfl) (by kernel_rfl) (by kernel_rfl) (by kernel_rfl)
  have h3 := @run_callFunc_extern Tryz.prog 75 _ (ReflectliteValue.method (ReflectliteValue.valueError "reflectlite.Value.Elem" 0) ReflectliteValue.elem) Tryz.func75 (by kernel_rfl) (by kernel_rfl) (by kernel_rfl) (by kernel_rfl)
  have h4 := @run_callFunc_extern Tryz.prog 76 _ ReflectliteValue.set Tryz.func76 (by kernel_rfl) (by kernel_rfl) (by kernel_rfl) (by kernel_rfl)
  have h5 := @run_callFunc_extern Tryz.prog 51 _ (fun args => ReflectliteValue.unpack (args.getD 0 (.tuple #[]))) Tryz.func51 (by kernel_rfl) (by kernel_rfl) (by kernel_rfl) (by kernel_rfl)
  have t1 := r_typeOf1
  have mA := r_mAss
  have as1 := r_ass
  have vo := r_of2
  unfold rty at t1 as1
  unfold hnd at as1
  unfold rval at vo
  have eV := fun o => r_elemV (a := ⟨a, 0, none⟩) (p := ⟨p, 0, none⟩) (w := w.alloc o) ((ha.alloc o).cell 0)
  have sV := fun (o : Obj) (h : (w.alloc o).heap.size = w.heap.size + 1) => r_set (p := ⟨p, 0, none⟩) (b := ⟨w.heap.size + 1, 0, none⟩) (q := ⟨b, 0, none⟩) (old := old) (w := (w.alloc o).alloc (.cells #[.pointer (some ⟨b, 0, none⟩)] 72)) ((Blk.made' h _ _).cell 0) (((hp.alloc o).alloc _).cell 0) (((hp.alloc o).alloc _).free 0)
  have sV2 := fun o => sV o (by simp)
  clear sV
  unfold rval at eV sV2
  unfold rty rval
  have HP := Lib.hid hp
  clear hp ha
  go_enter Tryz.func54, Tryz.ntmps54
  go_wp2_with fail
  refine wp_loop_rounds 1 ?_
  rw [rounds_succ]
  go_wp2_with fail
  go_ret
  exact ⟨rfl, (((Fr.refl (· = p) w).alloc _).alloc _).set (p := ⟨p, 0, none⟩) (.inr rfl) _, by simpa using ((HP.out.alloc _).alloc _).put 0 (.pointer (some ⟨b, 0, none⟩))⟩
end Go.Proofs.YtoephflcjllaaaaGreatDoor
