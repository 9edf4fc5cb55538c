/- What reflectlite answers of a pointer to a fault: closed facts, and what reads memory. -/
import Derived.Test.YtoephflcjllaaaaGreatDoorB
import Derived.LaidEql
import Derived.Stop.Asserts
namespace Go.Proofs.YtoephflcjllaaaaGreatDoor
open Go.RowKit Go.Extern

/-- A type's handle; what reflectlite's ValueOf, TypeOf hand back. -/
def hnd (t : Nat) : Value := .pointer (some ⟨9, t, none⟩)
def rty (t : Nat) : Value := .iface 161 (.agg #[.pointer (some ⟨9, t, none⟩)])
def rval (t : Nat) (a : Addr) (f : Int) : Value := .agg #[.pointer (some ⟨9, t, none⟩), .pointer (some a), .int .u64 f]

theorem r_of1 (p : Addr) (w : World) : (ReflectliteValue.unpack (.iface 82 (.pointer (some p)))).run Tryz.prog w = .ok (rval 82 ⟨w.heap.size, 0, none⟩ 150) (w.alloc (.cells #[.pointer (some p)] 82)) := by kernel_rfl
theorem r_of2 (p : Addr) (w : World) : (ReflectliteValue.unpack (.iface 72 (.pointer (some p)))).run Tryz.prog w = .ok (rval 72 ⟨w.heap.size, 0, none⟩ 150) (w.alloc (.cells #[.pointer (some p)] 72)) := by kernel_rfl
theorem r_type (q : Addr) (w : World) : ((ReflectliteValue.methodAny (ReflectliteValue.valueError "reflectlite.Value.Type" 0) fun t _ _ _ => ReflectliteType.toType t) #[rval 82 q 150]).run Tryz.prog w = .ok (rty 82) w := by kernel_rfl
theorem r_mKind (h : Value) (w : World) : (Go.method 441 161 (.agg #[h]) "Kind").run Tryz.prog w = .ok (176, h) w := by kernel_rfl
theorem r_kind1 (w : World) : ((ReflectliteType.abiMethod fun t => Functor.map (fun a => Value.int .u8 (a : Nat)) (Rtype.kind t)) #[hnd 82]).run Tryz.prog w = .ok (.int .u8 22) w := by kernel_rfl
theorem r_kind2 (w : World) : ((ReflectliteType.abiMethod fun t => Functor.map (fun a => Value.int .u8 (a : Nat)) (Rtype.kind t)) #[hnd 72]).run Tryz.prog w = .ok (.int .u8 22) w := by kernel_rfl
theorem r_mElem (h : Value) (w : World) : (Go.method 441 161 h "Elem").run Tryz.prog w = .ok (192, h) w := by kernel_rfl
theorem r_elem (w : World) : ((ReflectliteType.method ReflectliteType.elem) #[.agg #[hnd 82]]).run Tryz.prog w = .ok (rty 72) w := by kernel_rfl
theorem r_mImpl (h : Value) (w : World) : (Go.method 441 161 h "Implements").run Tryz.prog w = .ok (193, h) w := by kernel_rfl
theorem r_impl (w : World) : ((ReflectliteType.relation "Implements" ReflectliteType.implements_) #[.agg #[hnd 72], rty 36]).run Tryz.prog w = .ok (.bool true) w := by kernel_rfl
theorem r_typeOf1 (v : Value) (w : World) : (ReflectliteType.typeOf #[.iface 72 v]).run Tryz.prog w = .ok (rty 72) w := by kernel_rfl
theorem r_typeOf2 (v : Value) (w : World) : (ReflectliteType.typeOf #[.iface 73 v]).run Tryz.prog w = .ok (rty 73) w := by kernel_rfl
theorem r_mAss (h : Value) (w : World) : (Go.method 441 161 h "AssignableTo").run Tryz.prog w = .ok (190, h) w := by kernel_rfl
theorem r_ass (w : World) : ((ReflectliteType.relation "AssignableTo" ReflectliteType.assignableTo) #[.agg #[hnd 72], rty 72]).run Tryz.prog w = .ok (.bool true) w := by kernel_rfl
theorem r_mComp (h : Value) (w : World) : (Go.method 441 161 h "Comparable").run Tryz.prog w = .ok (191, h) w := by kernel_rfl
theorem r_comp (w : World) : ((ReflectliteType.method fun t => do Rtype.noPackHeld "Comparable" t; Functor.map (fun a => Value.bool a.comparable) (typeInfo t)) #[.agg #[hnd 73]]).run Tryz.prog w = .ok (.bool true) w := by kernel_rfl
theorem r_mUnw (v : Value) (w : World) : (Go.method 441 72 v "Unwrap").run Tryz.prog w = .ok (181, v) w := by kernel_rfl

theorem r_noIs1 (v : Value) (xT : TypeId) (w : World) : (Instr.typeAssert (.iface 72 v) xT 173 true).run Tryz.prog w = .ok (.tuple #[.nilIface, .bool false]) w := run_typeAssert_lacksB Tryz.underlying173 (by kernel_rfl) (by kernel_rfl) v xT w
theorem r_noIs2 (v : Value) (xT : TypeId) (w : World) : (Instr.typeAssert (.iface 73 v) xT 173 true).run Tryz.prog w = .ok (.tuple #[.nilIface, .bool false]) w := run_typeAssert_lacksB Tryz.underlying173 (by kernel_rfl) (by kernel_rfl) v xT w
theorem r_unw1 (v : Value) (xT : TypeId) (w : World) : (Instr.typeAssert (.iface 72 v) xT 168 true).run Tryz.prog w = .ok (.tuple #[.iface 72 v, .bool true]) w := run_typeAssert_hasB Tryz.underlying168 (by kernel_rfl) v xT w
theorem r_unw2 (v : Value) (xT : TypeId) (w : World) : (Instr.typeAssert (.iface 73 v) xT 168 true).run Tryz.prog w = .ok (.tuple #[.nilIface, .bool false]) w := run_typeAssert_lacksB Tryz.underlying168 (by kernel_rfl) (by kernel_rfl) v xT w
theorem r_unws2 (v : Value) (xT : TypeId) (w : World) : (Instr.typeAssert (.iface 73 v) xT 170 true).run Tryz.prog w = .ok (.tuple #[.nilIface, .bool false]) w := run_typeAssert_lacksB Tryz.underlying170 (by kernel_rfl) (by kernel_rfl) v xT w
theorem r_eqE (k n : Int) (w : World) : (binOp .eql 36 (.iface 73 (.int .i64 k)) (.iface 73 (.int .i64 n))).run Tryz.prog w = .ok (.bool (k == n)) w := by kernel_rfl
end Go.Proofs.YtoephflcjllaaaaGreatDoor
