/- What reflectlite answers of a pointer to a fault: closed facts, and what reads memory. -/
import Derived.Test.YtoephflcjllaaaaGreatDoorJ03
import Derived.LaidEql
import Derived.Stop.Asserts
import Derived.Test.YtoephflcjllaaaaGreatDoorJ05
import Derived.BigQuiet
namespace Go.Proofs.YtoephflcjllaaaaGreatDoor
open Go.RowKit Go.Extern

/-- A type's handle; what reflectlite's ValueOf, TypeOf hand back. -/
def hnd (t : Nat) : Value := .pointer (some ⟨9, t, none⟩)
def rty (t : Nat) : Value := .iface 161 (.agg #[.pointer (some ⟨9, t, none⟩)])
def rval (t : Nat) (a : Addr) (f : Int) : Value := .agg #[.pointer (some ⟨9, t, none⟩), .pointer (some a), .int .u64 f]

theorem r_of1 (p : Addr) (w : World) : (ReflectliteValue.unpack (.iface 82 (.pointer (some p)))).run Tryz.prog w = .ok (rval 82 ⟨w.heap.size, 0, none⟩ 150) (w.alloc (.cells #[.pointer (some p)] 82)) := by kernel_rfl
theorem r_of2 (p : Addr) (w : World) : (ReflectliteValue.unpack (.iface 72 (.pointer (some p)))).run Tryz.prog w = .ok (rval 72 ⟨w.heap.size, 0, none⟩ 150) (w.alloc (.cells #[.pointer (some p)] 72)) := by kernel_rfl
theorem r_type (q : Addr) (w : World) : ((ReflectliteValue.methodAny (ReflectliteValue.valueError "reflectlite.Value.Type" 0) fun t _ _ _ => ReflectliteType.toType t) #[rval 82 q 150]).run Tryz.prog w = .ok (rty 82) w := by kernel_rfl
theorem r_mKind (h : Value) (w : World) : (Go.method 441 161 (.agg #[h]) "Kind").run Tryz.prog w = .ok (176, h) w := by kernel_rfl
theorem r_kind1 (w : World) : ((ReflectliteType.abiMethod fun t => Functor.map (fun a => Value.int .u8 (a : Nat)) (Rtype.kind t)) #[hnd 82]).run Tryz.prog w = .ok (.int .u8 22) w := by kernel_rfl
theorem r_kind2 (w : World) : ((ReflectliteType.abiMethod fun t => Functor.map (fun a => Value.int .u8 (a : Nat)) (Rtype.kind t)) #[hnd 72]).run Tryz.prog w = .ok (.int .u8 22) w := by kernel_rfl
theorem r_mElem (h : Value) (w : World) : (Go.method 441 161 h "Elem").run Tryz.prog w = .ok (192, h) w := by kernel_rfl
theorem r_elem (w : World) : ((ReflectliteType.method ReflectliteType.elem) #[.agg #[hnd 82]]).run Tryz.prog w = .ok (rty 72) w := by kernel_rfl
theorem r_mImpl (h : Value) (w : World) : (Go.method 441 161 h "Implements").run Tryz.prog w = .ok (193, h) w := by kernel_rfl
theorem r_impl (w : World) : ((ReflectliteType.relation "Implements" ReflectliteType.implements_) #[.agg #[hnd 72], rty 36]).run Tryz.prog w = .ok (.bool true) w := by kernel_rfl
theorem r_typeOf1 (v : Value) (w : World) : (ReflectliteType.typeOf #[.iface 72 v]).run Tryz.prog w = .ok (rty 72) w := by kernel_rfl
theorem r_typeOf2 (v : Value) (w : World) : (ReflectliteType.typeOf #[.iface 73 v]).run Tryz.prog w = .ok (rty 73) w := by kernel_rfl
theorem r_mAss (h : Value) (w : World) : (Go.method 441 161 h "AssignableTo").run Tryz.prog w = .ok (190, h) w := by kernel_rfl
theorem r_ass (w : World) : ((ReflectliteType.relation "AssignableTo" ReflectliteType.assignableTo) #[.agg #[hnd 72], rty 72]).run Tryz.prog w = .ok (.bool true) w := by kernel_rfl
theorem r_mComp (h : Value) (w : World) : (Go.method 441 161 h "Comparable").run Tryz.prog w = .ok (191, h) w := by kernel_rfl
theorem r_comp (w : World) : ((ReflectliteType.method fun t => do Rtype.noPackHeld "Comparable" t; Functor.map (fun a => Value.bool a.comparable) (typeInfo t)) #[.agg #[hnd 73]]).run Tryz.prog w = .ok (.bool true) w := by kernel_rfl
theorem r_mUnw (v : Value) (w : World) : (Go.method 441 72 v "Unwrap").run Tryz.prog w = .ok (181, v) w := by kernel_rfl

theorem r_noIs1 (v : Value) (xT : TypeId) (w : World) : (Instr.typeAssert (.iface 72 v) xT 173 true).run Tryz.prog w = .ok (.tuple #[.nilIface, .bool false]) w := run_typeAssert_lacksB Tryz.underlying173 (by kernel_rfl) (by kernel_rfl) v xT w
theorem r_noIs2 (v : Value) (xT : TypeId) (w : World) : (Instr.typeAssert (.iface 73 v) xT 173 true).run Tryz.prog w = .ok (.tuple #[.nilIface, .bool false]) w := run_typeAssert_lacksB Tryz.underlying173 (by kernel_rfl) (by kernel_rfl) v xT w
theorem r_unw1 (v : Value) (xT : TypeId) (w : World) : (Instr.typeAssert (.iface 72 v) xT 168 true).run Tryz.prog w = .ok (.tuple #[.iface 72 v, .bool true]) w := run_typeAssert_hasB Tryz.underlying168 (by kernel_rfl) v xT w
theorem r_unw2 (v : Value) (xT : TypeId) (w : World) : (Instr.typeAssert (.iface 73 v) xT 168 true).run Tryz.prog w = .ok (.tuple #[.nilIface, .bool false]) w := run_typeAssert_lacksB Tryz.underlying168 (by kernel_rfl) (by kernel_rfl) v xT w
theorem r_unws2 (v : Value) (xT : TypeId) (w : World) : (Instr.typeAssert (.iface 73 v) xT 170 true).run Tryz.prog w = .ok (.tuple #[.nilIface, .bool false]) w := run_typeAssert_lacksB Tryz.underlying170 (by kernel_rfl) (by kernel_rfl) v xT w
theorem r_eqE (k n : Int) (w : World) : (binOp .eql 36 (.iface 73 (.int .i64 k)) (.iface 73 (.int .i64 n))).run Tryz.prog w = .ok (.bool (k == n)) w := by kernel_rfl
end Go.Proofs.YtoephflcjllaaaaGreatDoor
/- Walks: errors.As and errors.Is of a fault. -/
namespace Go.Proofs.YtoephflcjllaaaaGreatDoor
open Go.RowKit Go.Extern

theorem r_isNil0 (a : Addr) (w : World) : ((ReflectliteValue.method (ReflectliteValue.valueError "reflectlite.Value.IsNil" 0) ReflectliteValue.isNil) #[rval 82 a 150]).run Tryz.prog w =
  ((do match ← load a with
      | .chan none | .nilFunc | .nilIface | .map none | .pointer none | .slice none _ _ => pure (.bool true)
      | _ => pure (.bool false)) : Sem Value).run Tryz.prog w := by kernel_rfl
theorem r_elem0 (a : Addr) (w : World) : ((ReflectliteValue.method (ReflectliteValue.valueError "reflectlite.Value.Elem" 0) ReflectliteValue.elem) #[rval 82 a 150]).run Tryz.prog w =
  ((do match ← load a with
       | .pointer none => pure ReflectliteValue.zeroV
       | .pointer (some p) => ReflectliteValue.mk 72 p 256
       | _ => ReflectliteValue.valueError "reflectlite.Value.Elem" 22) : Sem Value).run Tryz.prog w := by kernel_rfl
theorem r_set0 (p b : Addr) (w : World) : (ReflectliteValue.set #[rval 72 p 406, rval 72 b 150]).run Tryz.prog w =
  ((do let val ← load b; storeVar 72 p val; pure (.tuple #[])) : Sem Value).run Tryz.prog w := by kernel_rfl
theorem r_mk (p : Addr) (w : World) : (ReflectliteValue.mk 72 p 256).run Tryz.prog w = .ok (rval 72 p 406) w := by kernel_rfl
theorem r_store0 (p q : Addr) (w : World) : ((do storeVar 72 p (.pointer (some q)); pure (.tuple #[])) : Sem Value).run Tryz.prog w = ((do store p (.pointer (some q)); pure (.tuple #[])) : Sem Value).run Tryz.prog w := by kernel_rfl
section
variable {a p b : Addr} {w : World}
theorem r_isNil (h : w.cell? a = some (.pointer (some p))) : ((ReflectliteValue.method (ReflectliteValue.valueError "reflectlite.Value.IsNil" 0) ReflectliteValue.isNil) #[rval 82 a 150]).run Tryz.prog w = .ok (.bool false) w := by
  rw [r_isNil0]; simp [h]
theorem r_elemV (h : w.cell? a = some (.pointer (some p))) : ((ReflectliteValue.method (ReflectliteValue.valueError "reflectlite.Value.Elem" 0) ReflectliteValue.elem) #[rval 82 a 150]).run Tryz.prog w = .ok (rval 72 p 406) w := by
  rw [r_elem0]; simp [h, r_mk]
theorem r_set {q : Addr} {old : Value} (h : w.cell? b = some (.pointer (some q))) (hp : w.cell? p = some old) (hf : w.frozen? p = false) : (ReflectliteValue.set #[rval 72 p 406, rval 72 b 150]).run Tryz.prog w = .ok (.tuple #[]) (w.setCell p (.pointer (some q))) := by
  rw [r_set0]
  have e : ((do let val ← load b; storeVar 72 p val; pure (.tuple #[])) : Sem Value).run Tryz.prog w = ((do storeVar 72 p (.pointer (some q)); pure (.tuple #[])) : Sem Value).run Tryz.prog w := by
    rw [Sem.run_bind, run_load, h]; dsimp only; rw [Result.andThen_ok]
  rw [e, r_store0, Sem.run_bind, run_store _ _ _ _ _ rfl, hp]
  simp [hf]
end
end Go.Proofs.YtoephflcjllaaaaGreatDoor
/- Walks: errors.As and errors.Is of a fault. -/
namespace Go.Proofs.YtoephflcjllaaaaGreatDoor
open Go.RowKit Go.Extern

theorem unwrap_any (b : Nat) (k p : Int) (w : World) (hb : Blk w b 75 #[.int .i64 k, .int .i64 p]) :
    Calls Tryz.prog 181 #[.pointer (some ⟨b, 0, none⟩)] w fun e w' => e = .returned (.iface 73 (.int .i64 k)) ∧ w = w' := by
  have c0 := hb.cell 0
  simp at c0
  go_enter Tryz.func181, Tryz.ntmps181
  go_wp2
  go_ret
  exact ⟨rfl, rfl⟩

set_option maxRecDepth 100000 in
set_option maxHeartbeats 2000000 in
theorem err_is (b : Nat) (k p n : Int) (w : World) (hb : Blk w b 75 #[.int .i64 k, .int .i64 p]) :
    Calls Tryz.prog 56 #[.iface 72 (.pointer (some ⟨b, 0, none⟩)), .iface 73 (.int .i64 n), .bool true] w fun e w' => e = .returned (.bool (k == n)) ∧ w = w' := by
  have HU := Lib.hid (unwrap_any b k p w hb)
  have n1 := r_noIs1
  have n2 := r_noIs2
  have u1 := r_unw1
  have u2 := r_unw2
  have v2 := r_unws2
  have mU := r_mUnw
  have eqE := r_eqE k n
  have hty := run_eql_iface_types (P := Tryz.prog) 72 73 (.pointer (some ⟨b, 0, none⟩)) (.int .i64 n) Tryz.underlying36 (by decide) w
  go_enter Tryz.func56, Tryz.ntmps56
  go_wp2_with fail
  refine wp_loop_rounds 2 ?_
  rw [rounds_succ]
  go_wp2_with fail
  refine HU.out.mono ?_
  rintro e w' ⟨rfl, rfl⟩
  by_cases hkn : k = n
  · subst hkn
    go_wp2_with fail
    rw [rounds_succ]
    go_wp2_with fail
    go_ret
    exact ⟨by simp [*], rfl⟩
  · have hb' : (k == n) = false := by simpa using hkn
    go_wp2_with fail
    rw [rounds_succ]
    go_wp2_with fail
    go_ret
    exact ⟨by simp [*], rfl⟩

set_option maxRecDepth 100000 in
set_option maxHeartbeats 2000000 in
theorem errors_is (b : Nat) (k p n : Int) (w : World) (hb : Blk w b 75 #[.int .i64 k, .int .i64 p]) :
    Calls Tryz.prog 32 #[.iface 72 (.pointer (some ⟨b, 0, none⟩)), .iface 73 (.int .i64 n)] w fun e w' => e = .returned (.bool (k == n)) ∧ w = w' := by
  have HI := Lib.hid (err_is b k p n w hb)
  have h1 := @run_callFunc_extern Tryz.prog 55 _ ReflectliteType.typeOf Tryz.func55 (by kernel_rfl) (by kernel_rfl) (by kernel_rfl) (by kernel_rfl)
  have h2 := @run_callFunc_extern Tryz.prog 191 _ (ReflectliteType.method fun t => do Rtype.noPackHeld "Comparable" t; pure (.bool (← typeInfo t).comparable)) Tryz.func191 (by kernel_rfl) (by kernel_rfl) (by kernel_rfl) (by kernel_rfl)
  have t2 := r_typeOf2
  have c2 := r_comp
  have m2 := r_mComp
  unfold rty at t2
  unfold hnd at c2
  go_enter Tryz.func32, Tryz.ntmps32
  go_wp2_with fail
  refine HI.out.mono ?_
  rintro e w' ⟨rfl, rfl⟩
  go_wp2_with fail
  go_ret
  exact ⟨rfl, rfl⟩

/-- What errors.As does: the variable holds the fault. -/
def AsDid (p b : Nat) (w : World) (e : Ending) (w' : World) : Prop := e = .returned (.bool true) ∧ Fr (· = p) w w' ∧ Blk w' p 72 #[.pointer (some ⟨b, 0, none⟩)]

set_option maxRecDepth 100000 in
set_option maxHeartbeats 2000000 in
theorem err_as (b p a : Nat) (old : Value) (w : World) (hp : Blk w p 72 #[old]) (ha : Blk w a 82 #[.pointer (some ⟨p, 0, none⟩)]) :
    Calls Tryz.prog 54 #[.iface 72 (.pointer (some ⟨b, 0, none⟩)), .iface 82 (.pointer (some ⟨p, 0, none⟩)), rval 82 ⟨a, 0, none⟩ 150, rty 72] w (AsDid p b w) := by
  have h1 := @run_callFunc_extern Tryz.prog 55 _ ReflectliteType.typeOf Tryz.func55 (by kernel_rfl) (by kernel_rfl) (by kernel_rfl) (by kernel_rfl)
  have h2 := @run_callFunc_extern Tryz.prog 190 _ (ReflectliteType.relation "AssignableTo" ReflectliteType.assignableTo) Tryz.func190 (by kernel_rfl) (by kernel_rfl) (by kernel_rfl) (by kernel_rfl)
  have h3 := @run_callFunc_extern Tryz.prog 75 _ (ReflectliteValue.method (ReflectliteValue.valueError "reflectlite.Value.Elem" 0) ReflectliteValue.elem) Tryz.func75 (by kernel_rfl) (by kernel_rfl) (by kernel_rfl) (by kernel_rfl)
  have h4 := @run_callFunc_extern Tryz.prog 76 _ ReflectliteValue.set Tryz.func76 (by kernel_rfl) (by kernel_rfl) (by kernel_rfl) (by kernel_rfl)
  have h5 := @run_callFunc_extern Tryz.prog 51 _ (fun args => ReflectliteValue.unpack (args.getD 0 (.tuple #[]))) Tryz.func51 (by kernel_rfl) (by kernel_rfl) (by kernel_rfl) (by kernel_rfl)
  have t1 := r_typeOf1
  have mA := r_mAss
  have as1 := r_ass
  have vo := r_of2
  unfold rty at t1 as1
  unfold hnd at as1
  unfold rval at vo
  have eV := fun o => r_elemV (a := ⟨a, 0, none⟩) (p := ⟨p, 0, none⟩) (w := w.alloc o) ((ha.alloc o).cell 0)
  have sV := fun (o : Obj) (h : (w.alloc o).heap.size = w.heap.size + 1) => r_set (p := ⟨p, 0, none⟩) (b := ⟨w.heap.size + 1, 0, none⟩) (q := ⟨b, 0, none⟩) (old := old) (w := (w.alloc o).alloc (.cells #[.pointer (some ⟨b, 0, none⟩)] 72)) ((Blk.made' h _ _).cell 0) (((hp.alloc o).alloc _).cell 0) (((hp.alloc o).alloc _).free 0)
  have sV2 := fun o => sV o (by simp)
  clear sV
  unfold rval at eV sV2
  unfold rty rval
  have HP := Lib.hid hp
  clear hp ha
  go_enter Tryz.func54, Tryz.ntmps54
  go_wp2_with fail
  refine wp_loop_rounds 1 ?_
  rw [rounds_succ]
  go_wp2_with fail
  go_ret
  exact ⟨rfl, (((Fr.refl (· = p) w).alloc _).alloc _).set (p := ⟨p, 0, none⟩) (.inr rfl) _, by simpa using ((HP.out.alloc _).alloc _).put 0 (.pointer (some ⟨b, 0, none⟩))⟩
end Go.Proofs.YtoephflcjllaaaaGreatDoor
/- Walks: errors.As of a fault; plain.parts. -/
namespace Go.Proofs.YtoephflcjllaaaaGreatDoor
open Go.RowKit Go.Extern
set_option maxRecDepth 100000 in
set_option maxHeartbeats 2000000 in
theorem errors_as (b p : Nat) (old : Value) (w : World) (hp : Blk w p 72 #[old]) (hE : w.cell? ⟨0, 0, none⟩ = some (rty 36)) :
    Calls Tryz.prog 31 #[.iface 72 (.pointer (some ⟨b, 0, none⟩)), .iface 82 (.pointer (some ⟨p, 0, none⟩))] w (AsDid p b w) := by
  have h1 := @run_callFunc_extern Tryz.prog 51 _ (fun args => ReflectliteValue.unpack (args.getD 0 (.tuple #[]))) Tryz.func51 (by kernel_rfl) (by kernel_rfl) (by kernel_rfl) (by kernel_rfl)
  have h2 := @run_callFunc_extern Tryz.prog 52 _ (ReflectliteValue.methodAny (ReflectliteValue.valueError "reflectlite.Value.Type" 0) fun t _ _ _ => ReflectliteType.toType t) Tryz.func52 (by kernel_rfl) (by kernel_rfl) (by kernel_rfl) (by kernel_rfl)
  have h3 := @run_callFunc_extern Tryz.prog 176 _ (ReflectliteType.abiMethod fun t => do pure (.int .u8 (← Rtype.kind t))) Tryz.func176 (by kernel_rfl) (by kernel_rfl) (by kernel_rfl) (by kernel_rfl)
  have h4 := @run_callFunc_extern Tryz.prog 53 _ (ReflectliteValue.method (ReflectliteValue.valueError "reflectlite.Value.IsNil" 0) ReflectliteValue.isNil) Tryz.func53 (by kernel_rfl) (by kernel_rfl) (by kernel_rfl) (by kernel_rfl)
  have h5 := @run_callFunc_extern Tryz.prog 192 _ (ReflectliteType.method ReflectliteType.elem) Tryz.func192 (by kernel_rfl) (by kernel_rfl) (by kernel_rfl) (by kernel_rfl)
  have h6 := @run_callFunc_extern Tryz.prog 193 _ (ReflectliteType.relation "Implements" ReflectliteType.implements_) Tryz.func193 (by kernel_rfl) (by kernel_rfl) (by kernel_rfl) (by kernel_rfl)
  have f1 := r_of1
  have f2 := fun q W => r_type q W
  have f3 := r_mKind
  have f4 := r_kind1
  have f5 := r_kind2
  have f6 := r_mElem
  have f7 := r_elem
  have f8 := r_mImpl
  have f9 := r_impl
  have g1 := fun o => r_isNil (a := ⟨w.heap.size, 0, none⟩) (p := ⟨p, 0, none⟩) (w := (w.alloc (.cells #[.pointer (some ⟨p, 0, none⟩)] 82)).alloc o) (((Blk.made w _ _).alloc o).cell 0)
  have hE2 := fun o o2 => cell_alloc (cell_alloc hE o) o2
  unfold rval at f1 f2 g1
  unfold hnd at f4 f5 f7 f9
  unfold rty at f2 f7 f9 hE2
  have HP := Lib.hid hp
  clear hp hE
  go_enter Tryz.func31, Tryz.ntmps31
  go_wp2_with fail
  refine (err_as b p w.heap.size old _ ((HP.out.alloc _).alloc _) ((Blk.made w _ _).alloc _)).mono ?_
  rintro e w' ⟨rfl, hF, hB⟩
  have HF := Lib.hid hF
  have HB := Lib.hid hB
  clear hF hB
  go_wp2_with fail
  go_ret
  exact ⟨rfl, (((Fr.refl (· = p) w).alloc _).alloc _).trans HF.out (fun k _ h => h), HB.out⟩
end Go.Proofs.YtoephflcjllaaaaGreatDoor
/- Walk: plain.parts. -/
namespace Go.Proofs.YtoephflcjllaaaaGreatDoor
open Go.RowKit Go.Extern

theorem Fr.drewN {S : Nat → Prop} {w w' : World} (h : Fr S w w') (n : Nat) : Fr S w (w'.drewN n) := h.trans ⟨rfl, rfl, rfl, Nat.le_refl _, fun _ _ _ => rfl⟩ (fun _ _ h => h)
theorem Blk.drewN {w : World} {g : Nat} {t : TypeId} {cs : Array Value} (h : Blk w g t cs) (n : Nat) : Blk (w.drewN n) g t cs := h
/-- What parts says of a fault. -/
def Kinds (k : Int) : Prop := 1 ≤ k ∧ k ≤ 9

set_option maxRecDepth 100000 in
set_option maxHeartbeats 2000000 in
theorem parts_nil (w : World) : Calls Tryz.prog 12 #[.nilIface] w fun e w' => e = .returned (.tuple #[.int .i64 0, .int .i64 0]) ∧ w = w' := by
  go_enter Tryz.func12, Tryz.ntmps12
  go_wp2_with fail
  go_ret2
  exact ⟨rfl, rfl⟩

set_option maxRecDepth 100000 in
set_option maxHeartbeats 2000000 in
theorem parts_any (b : Nat) (k p : Int) (hk : Kinds k) (w : World) (hb : Blk w b 75 #[.int .i64 k, .int .i64 p]) (hE : w.cell? ⟨0, 0, none⟩ = some (rty 36)) :
    Calls Tryz.prog 12 #[.iface 72 (.pointer (some ⟨b, 0, none⟩))] w fun e w' => e = .returned (.tuple #[.int .i64 k, .int .i64 p]) ∧ Below w.heap.size w w' := by
  have HB := Lib.hid hb
  have hlt := hb.lt
  have HA := Lib.hid (fun (o : Obj) (h : o = .cells #[.pointer none] 72) => errors_as b w.heap.size (.pointer none) (w.alloc o) (h ▸ Blk.made w _ _) (cell_alloc hE o))
  clear hb
  go_enter Tryz.func12, Tryz.ntmps12
  go_wp2_with fail
  refine (HA.out _ rfl).mono ?_
  rintro e w' ⟨rfl, hF, hP⟩
  have hb2 := (HB.out.alloc (.cells #[.pointer none] 72)).fr hF (by omega)
  have HF := Lib.hid hF
  have HP := Lib.hid hP
  have HB2 := Lib.hid hb2
  have hsz := hF.size
  clear hF hP hb2
  go_wp2_with fail
  go_loopw [5] (fun v wr => ∃ n : Nat, v = .int .i64 n ∧ n ≤ 10 ∧ Fr (fun _ => False) w' wr) (fun v _ => 10 - (intOf v).toNat)
  case atStart => exact ⟨0, rfl, by omega, Fr.refl _ _⟩
  case round =>
    rename_i wr
    obtain ⟨n, rfl, hn, hf⟩ := hrel
    have hb3 := HB2.out.fr hf (fun h => h)
    have hp3 := HP.out.fr hf (fun h => h)
    have HI := Lib.hid (fun m => (errors_is b k p n (World.drewN wr m) hb3).mono (R' := fun e w' => e = .returned (.bool (k == n)) ∧ w' = World.drewN wr m) fun _ _ h => ⟨h.1, h.2.symm⟩)
    have c0 := hb3.cell 0
    have c1 := hb3.cell 1
    have d0 := hp3.cell 0
    simp at c0 c1 d0
    have HFR := Lib.hid hf
    clear hf hb3 hp3
    by_cases hlt : (n : Int) ≤ 9
    · have hq : ((n : Int) == k) = (k == (n : Int)) := by rw [Bool.eq_iff_iff]; simp; exact eq_comm
      have hq2 : ((k == (n : Int)) != ((n : Int) == k)) = false := by rw [hq]; simp
      generalize (k == (n : Int)) = B1 at *
      go_wp2_with fail
      go_quiet ((go_at_call 32; refine Calls.quiet_of_same (HI.out _)))
      go_wp2_with fail
      exact ⟨⟨n + 1, by simp, by omega, HFR.out.drewN _⟩, by simp [intOf]; omega⟩
    · have hlt' : ¬ (n : Int) ≤ 9 := by omega
      have hk0 : (k == 0) = false := by unfold Kinds at hk; simp; omega
      go_wp2_with fail
      go_quiet (fail)
      go_wp2_with fail
      go_ret2
      refine ⟨rfl, ?_⟩
      have h1 := fun nq => (((Fr.refl (fun k => w.heap.size ≤ k) w).alloc (.cells #[.pointer none] 72)).trans HF.out (fun k hk h => by omega)).trans (HFR.out.drewN nq) (fun k hk h => h.elim)
      exact (h1 _).below (Nat.le_refl _) (fun _ h => h)
end Go.Proofs.YtoephflcjllaaaaGreatDoor
