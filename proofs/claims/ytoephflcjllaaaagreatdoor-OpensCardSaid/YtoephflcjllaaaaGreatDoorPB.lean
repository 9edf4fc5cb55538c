/- Walks: errors.As and errors.Is of a fault. -/
import Derived.Test.YtoephflcjllaaaaGreatDoorPA
import Derived.Test.YtoephflcjllaaaaGreatDoorD
namespace Go.Proofs.YtoephflcjllaaaaGreatDoor
open Go.RowKit Go.Extern

theorem r_isNil0 (a : Addr) (w : World) : ((ReflectliteValue.method (ReflectliteValue.valueError "reflectlite.Value.IsNil" 0) ReflectliteValue.isNil) #[rval 82 a 150]).run Tryz.prog w =
  ((do match ← load a with
      | .chan none | .nilFunc | .nilIface | .map none | .pointer none | .slice none _ _ => pure (.bool true)
      | _ => pure (.bool false)) : Sem Value).run Tryz.prog w := by kernel_rfl
theorem r_elem0 (a : Addr) (w : World) : ((ReflectliteValue.method (ReflectliteValue.valueError "reflectlite.Value.Elem" 0) ReflectliteValue.elem) #[rval 82 a 150]).run Tryz.prog w =
  ((do match ← load a with
       | .pointer none => pure ReflectliteValue.zeroV
       | .pointer (some p) => ReflectliteValue.mk 72 p 256
       | _ => ReflectliteValue.valueError "reflectlite.Value.Elem" 22) : Sem Value).run Tryz.prog w := by kernel_rfl
theorem r_set0 (p b : Addr) (w : World) : (ReflectliteValue.set #[rval 72 p 406, rval 72 b 150]).run Tryz.prog w =
  ((do let val ← load b; storeVar 72 p val; pure (.tuple #[])) : Sem Value).run Tryz.prog w := by kernel_rfl
theorem r_mk (p : Addr) (w : World) : (ReflectliteValue.mk 72 p 256).run Tryz.prog w = .ok (rval 72 p 406) w := by kernel_rfl
theorem r_store0 (p q : Addr) (w : World) : ((do storeVar 72 p (.pointer (some q)); pure (.tuple #[])) : Sem Value).run Tryz.prog w = ((do store p (.pointer (some q)); pure (.tuple #[])) : Sem Value).run Tryz.prog w := by kernel_rfl
section
variable {a p b : Addr} {w : World}
theorem r_isNil (h : w.cell? a = some (.pointer (some p))) : ((ReflectliteValue.method (ReflectliteValue.valueError "reflectlite.Value.IsNil" 0) ReflectliteValue.isNil) #[rval 82 a 150]).run Tryz.prog w = .ok (.bool false) w := by
  rw [r_isNil0]; simp [h]
theorem r_elemV (h : w.cell? a = some (.pointer (some p))) : ((ReflectliteValue.method (ReflectliteValue.valueError "reflectlite.Value.Elem" 0) ReflectliteValue.elem) #[rval 82 a 150]).run Tryz.prog w = .ok (rval 72 p 406) w := by
  rw [r_elem0]; simp [h, r_mk]
theorem r_set {q : Addr} {old : Value} (h : w.cell? b = some (.pointer (some q))) (hp : w.cell? p = some old) (hf : w.frozen? p = false) : (ReflectliteValue.set #[rval 72 p 406, rval 72 b 150]).run Tryz.prog w = .ok (.tuple #[]) (w.setCell p (.pointer (some q))) := by
  rw [r_set0]
  have e : ((do let val ← load b; storeVar 72 p val; pure (.tuple #[])) : Sem Value).run Tryz.prog w = ((do storeVar 72 p (.pointer (some q)); pure (.tuple #[])) : Sem Value).run Tryz.prog w := by
    rw [Sem.run_bind, run_load, h]; dsimp only; rw [Result.andThen_ok]
  rw [e, r_store0, Sem.run_bind, run_store _ _ _ _ _ rfl, hp]
  simp [hf]
end
end Go.Proofs.YtoephflcjllaaaaGreatDoor
