/- Walks: errors.As of a fault; plain.parts. -/
import Derived.Test.YtoephflcjllaaaaGreatDoorPC
namespace Go.Proofs.YtoephflcjllaaaaGreatDoor
open Go.RowKit Go.Extern
set_option maxRecDepth 100000 in
set_option maxHeartbeats 2000000 in
theorem errors_as (b p : Nat) (old : Value) (w : World) (hp : Blk w p 72 #[old]) (hE : w.cell? ⟨0, 0, none⟩ = some (rty 36)) :
    Calls Tryz.prog 31 #[.iface 72 (.pointer (some ⟨b, 0, none⟩)), .iface 82 (.pointer (some ⟨p, 0, none⟩))] w (AsDid p b w) := by
  have h1 := @run_callFunc_extern Tryz.prog 51 _ (fun args => ReflectliteValue.unpack (args.getD 0 (.tuple #[]))) Tryz.func51 (by kernel_rfl) (by kernel_rfl) (by kernel_rfl) (by kernel_rfl)
  have h2 := @run_callFunc_extern Tryz.prog 52 _ (ReflectliteValue.methodAny (ReflectliteValue.valueError "reflectlite.Value.Type" 0) fun t _ _ _ => ReflectliteType.toType t) Tryz.func52 (by kernel_rfl) (by kernel_rfl) (by kernel_rfl) (by kernel_rfl)
  have h3 := @run_callFunc_extern Tryz.prog 176 _ (ReflectliteType.abiMethod fun t => do pure (.int .u8 (← Rtype.kind t))) Tryz.func176 (by kernel_rfl) (by kernel_rfl) (by kernel_rfl) (by kernel_rfl)
  have h4 := @run_callFunc_extern Tryz.prog 53 _ (ReflectliteValue.method (ReflectliteValue.valueError "reflectlite.Value.IsNil" 0) ReflectliteValue.isNil) Tryz.func53 (by kernel_rfl) (by kernel_rfl) (by kernel_rfl) (by kernel_rfl)
  have h5 := @run_callFunc_extern Tryz.prog 192 _ (ReflectliteType.method ReflectliteType.elem) Tryz.func192 (by kernel_rfl) (by kernel_rfl) (by kernel_rfl) (by kernel_rfl)
  have h6 := @run_callFunc_extern Tryz.prog 193 _ (ReflectliteType.relation "Implements" ReflectliteType.implements_) Tryz.func193 (by kernel_rfl) (by kernel_rfl) (by kernel_rfl) (by kernel_rfl)
  have f1 := r_of1
  have f2 := fun q W => r_type q W
  have f3 := r_mKind
  have f4 := r_kind1
  have f5 := r_kind2
  have f6 := r_mElem
  have f7 := r_elem
  have f8 := r_mImpl
  have f9 := r_impl
  have g1 := fun o => r_isNil (a := ⟨w.heap.size, 0, none⟩) (p := ⟨p, 0, none⟩) (w := (w.alloc (.cells #[.pointer (some ⟨p, 0, none⟩)] 82)).alloc o) (((Blk.made w _ _).alloc o).cell 0)
  have hE2 := fun o o2 => cell_alloc (cell_alloc hE o) o2
  unfold rval at f1 f2 g1
  unfold hnd at f4 f5 f7 f9
  unfold rty at f2 f7 f9 hE2
  have HP := Lib.hid hp
  clear hp hE
  go_enter Tryz.func31, Tryz.ntmps31
  go_wp2_with fail
  refine (err_as b p w.heap.size old _ ((HP.out.alloc _).alloc _) ((Blk.made w _ _).alloc _)).mono ?_
  rintro e w' ⟨rfl, hF, hB⟩
  have HF := Lib.hid hF
  have HB := Lib.hid hB
  clear hF hB
  go_wp2_with fail
  go_ret
  exact ⟨rfl, (((Fr.refl (· = p) w).alloc _).alloc _).trans HF.out (fun k _ h => h), HB.out⟩
end Go.Proofs.YtoephflcjllaaaaGreatDoor
