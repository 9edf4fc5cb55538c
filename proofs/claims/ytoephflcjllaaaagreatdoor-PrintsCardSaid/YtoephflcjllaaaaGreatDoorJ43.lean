/- What a row's listed variables give a walk; a world that meets them; the wrap that keeps the world's shape. -/
import Derived.Test.YtoephflcjllaaaaGreatDoorRows
import Derived.Test.YtoephflcjllaaaaGreatDoorJ42
import Derived.HandedShaped
import Derived.ProofKit
import Derived.OpenShut
import Derived.LaidMore
import Derived.Lay
import Derived.LaidHandle
import Derived.LaidLaws
import Derived.RowKitTokens
import Derived.Stop.LaidErr
import Derived.Stop.ErrReads
import Derived.Stop.Joined
import Derived.Shelf.Vars
namespace Go.Proofs.YtoephflcjllaaaaGreatDoor
open Go.ChangeShapes Go.WideShapes Go.ChangeAt Go.RowKit

theorem own : ownKnob Tryz.prog.godebug = none := by kernel_rfl
theorem star : "*" ++ "errors.errorString" = "*errors.errorString" := by decide
theorem rowErr (u : TypeId) (h : Tryz.prog.typeName? 3 u = some "*errors.errorString") : u = 253 :=
  typeName_ptr_named (nm := "errors.errorString") (by rw [star]; kernel_rfl) (by kernel_rfl) (by decide) u (by rw [star]; exact h)
theorem gErrorType : Tryz.prog.globalNamed "errors.errorType" = some 0 := by kernel_rfl
theorem cutRtype : (Tryz.prog.cutTypes.find? (·.1 == "internal/reflectlite.rtype")).map (·.2) = some 161 := by kernel_rfl
theorem typesSize : Tryz.prog.types.size = 341 := by kernel_rfl
theorem oneRow : ((List.range 341).filter fun t => Tryz.prog.rowNamed t [101, 114, 114, 111, 114]) = [36] := by kernel_rfl
theorem cellsErr : Tryz.prog.cellsOf 255 = 1 := by kernel_rfl
theorem cellsStr : Tryz.prog.cellsOf 9 = 1 := by kernel_rfl

/-- The cell of errors.errorType, out of the listed handle. -/
theorem handle_cell {W : World} {x : String × DataW Unit} (hx : x = ("errors.errorType", Rows.laid_errors_errorType)) (h : handlesMet Tryz.prog [x] W) : W.cell? ⟨0, 0, none⟩ = some (rty 36) := by
  subst hx
  obtain ⟨name, u, ty, e1, e2, e3, e4, e5⟩ := h _ (List.mem_singleton.2 rfl)
  have en : name = [101, 114, 114, 111, 114] := (Option.some.inj e1).symm
  subst en
  obtain rfl := Option.some.inj (cutRtype.symm.trans e2)
  have hm : ty ∈ (List.range 341).filter fun t => Tryz.prog.rowNamed t [101, 114, 114, 111, 114] := List.mem_filter.2 ⟨List.mem_range.2 (by rw [← typesSize]; exact e3), e4⟩
  rw [oneRow] at hm
  obtain rfl := List.mem_singleton.1 hm
  have hh : typeHandle Tryz.prog 36 = .pointer (some ⟨9, 36, none⟩) := by kernel_rfl
  rw [hh] at e5
  simpa [rty] using World.var?_cell gErrorType e5 0

theorem var_size {W : World} {r : List (String × DataW Unit)} {d : DataW Unit} (h : laidMet Tryz.prog (("math/bits.deBruijn64tab", d) :: r) W) : 9 ≤ W.heap.size := by
  obtain ⟨ps, ⟨g, t, cs, fuel, p, q, hg, _, hv, _⟩, _⟩ := h
  obtain rfl := Option.some.inj ((show Tryz.prog.globalNamed "math/bits.deBruijn64tab" = some 8 by kernel_rfl).symm.trans hg)
  unfold World.var? at hv
  simp only [hg, Option.bind_some] at hv
  rcases Nat.lt_or_ge 8 W.heap.size with h' | h'
  · exact h'
  · simp [Array.getElem?_eq_none h'] at hv
theorem syn_var {W : World} {r : List (String × DataW Unit)} (h : laidMet Tryz.prog (("strconv.ErrSyntax", Rows.laid_strconv_ErrSyntax) :: r) W) : ∃ tp p, W.var? Tryz.prog "strconv.ErrSyntax" = some #[.iface tp p] := by
  obtain ⟨a, s, hv, _⟩ := laid_sentinel h (show Tryz.prog.globalNamed "strconv.ErrSyntax" = some 4 by kernel_rfl) (show (Tryz.prog.globals[4]?).map (·.type) = some 36 by kernel_rfl) Tryz.underlying36 rowErr Tryz.underlying253 Tryz.underlying255 rfl rfl Tryz.underlying9 cellsErr cellsStr
  exact ⟨_, _, hv⟩
theorem ran_var {W : World} {r : List (String × DataW Unit)} (h : laidMet Tryz.prog (("strconv.ErrRange", Rows.laid_strconv_ErrRange) :: r) W) : ∃ tp p, W.var? Tryz.prog "strconv.ErrRange" = some #[.iface tp p] := by
  obtain ⟨a, s, hv, _⟩ := laid_sentinel h (show Tryz.prog.globalNamed "strconv.ErrRange" = some 5 by kernel_rfl) (show (Tryz.prog.globals[5]?).map (·.type) = some 36 by kernel_rfl) Tryz.underlying36 rowErr Tryz.underlying253 Tryz.underlying255 rfl rfl Tryz.underlying9 cellsErr cellsStr
  exact ⟨_, _, hv⟩
theorem max_is {W : World} (h : W.ShapedOpen Tryz.prog) : MaxIs W :=
  cell_of_shapedOpen_int (t := 3) (zero := #[.int .i64 0]) h (show 1 < Tryz.prog.globals.size by rw [show Tryz.prog.globals.size = 9 by kernel_rfl]; decide) (by kernel_rfl) rfl (by kernel_rfl) (by kernel_rfl) Tryz.underlying3

/-! ### A world that meets the list -/
/-- The settled world, with the handle of errors.errorType. -/
noncomputable def handleWorld (os : Os) : World :=
  let w0 := World.holding Tryz.prog os ⟨#[], #[], []⟩
  { w0 with heap := w0.heap.modify 0 fun
      | .cells _ t frozen => .cells #[rty 36] t frozen
      | o => o }
noncomputable def laidWorld (os : Os) (l : List (String × DataW Unit)) : World := (handleWorld os).layVars Tryz.prog (l.filter fun x => x.2.handleName?.isNone)
theorem laidWorld_met (os : Os) (l : List (String × DataW Unit)) (args : Array Value)
    (hf : (handleWorld os).layFits Tryz.prog (l.filter fun x => x.2.handleName?.isNone) [] = true)
    (hi : (handleWorld os).layIfaces Tryz.prog (l.filter fun x => x.2.handleName?.isNone) (laidWorld os l) = true)
    (hh : (l.filter fun x => x.2.handleName?.isSome).all (handleAtB Tryz.prog ((laidWorld os l).forCall (fun _ _ => 0) ⟨#[], args, []⟩).memory) = true) :
    laidMetH Tryz.prog l ((laidWorld os l).forCall (fun _ _ => 0) ⟨#[], args, []⟩).memory := by
  refine laidMetH_of_parts ?_ hh
  have h : laidMet Tryz.prog (l.filter fun x => x.2.handleName?.isNone) (laidWorld os l) := by
    unfold laidWorld at hi ⊢
    generalize (l.filter fun x => x.2.handleName?.isNone) = l' at *
    have e1 : (l'.filter fun x => (l'.map (·.1)).contains x.1) = l' := List.filter_eq_self.2 fun x hx => List.contains_iff_mem.2 (List.mem_map.2 ⟨x, hx, rfl⟩)
    have e2 : (l'.filter fun x => !(l'.map (·.1)).contains x.1) = [] := List.filter_eq_nil_iff.2 fun x hx => by rw [List.contains_iff_mem.2 (List.mem_map.2 ⟨x, hx, rfl⟩)]; simp
    exact laidMet_layVars (w0 := handleWorld os) (l'.map (·.1)) [] (by rw [e1]) (by rw [e1]; exact hf) (by rw [e1]; exact hi) (by rw [e2]; exact LaidIn.none)
  exact h.of_heap (by simp [World.memory, World.forCall, Input.heap])

set_option maxRecDepth 100000 in
/-- The wrap, with the world's shape and what the row lists. -/
theorem returns_laid {H : Type} {enc : TypeId × Value → H} {os : Os} {f : FuncId} {fn : Func} {s : ChangeSpec} {apart : Bool} {X : World → Array Value → Prop}
    (hX : ∀ (w w' : World) (args : Array Value), w.heap = w'.heap → X w args → X w' args)
    (started : os.Started) (noInit : Tryz.checked.prog.inits.idxOf? f = none) (hfn : Tryz.checked.prog.funcs[f]? = some fn)
    (witness : ∃ (w : World) (tape : Tape) (i : Input), w.os = os ∧ (w.forCall tape i).Shaped Tryz.checked.prog ∧ i.vars = [] ∧ Input.okWide Tryz.checked.prog (w.forCall tape i) .any w.heap.size f i ∧
      ((s.pre enc Tryz.checked.prog fn [] apart (w.forCall tape i).memory i.args ∧ X (w.forCall tape i).memory i.args) ∧ sizedMet enc Tryz.checked.prog fn (OpenSpec.ofChange s) apart (w.forCall tape i).memory i.args) ∧ ({} : Assume).holds Tryz.checked.prog (lone (Frame.enter Tryz.checked.prog f i.args .normal) [] (w.forCall tape i)))
    (contract : ∀ (W : World) (base : Nat) (args : Array Value) (ds gs : List (DataW H)) (before : List MemPlace),
      (∀ (j : Nat) t v, fn.params[j]? = some t → args[j]? = some v → Value.okWide Tryz.checked.prog W .any base t v) →
      DataW.Whole enc Tryz.checked.prog fn.params.toList s.vars apart W args.toList ds gs before →
      W.ShapedOpen Tryz.checked.prog → X W args →
      Calls Tryz.checked.prog f args W fun e W' => ∃ v, e = .returned v ∧ s.post enc Tryz.checked.prog fn apart true false false W args v W') :
    ReturnsInHanded {} Tryz.checked os f .any (fun w args => (s.pre enc Tryz.checked.prog fn [] apart w args ∧ X w args) ∧ sizedMet enc Tryz.checked.prog fn (OpenSpec.ofChange s) apart w args) (s.post enc Tryz.checked.prog fn apart true false false) := by
  refine returnsInHanded_of_calls own started noInit witness ?_
  intro w tape i _ hsh _ hok hpre _
  obtain ⟨_, _, _, fn', hfn', _, _, _, _, hval⟩ := hok
  obtain rfl : fn' = fn := Option.some.inj (hfn'.symm.trans hfn)
  obtain ⟨⟨⟨ds, gs, before, hw, _⟩, hx⟩, _⟩ := hpre
  refine (contract (w.forCall tape i) w.heap.size i.args ds gs before hval (DataW.Whole.of_heap (w' := w.forCall tape i) (by rfl) hw) hsh (hX _ _ _ (by rfl) hx)).mono fun e W' ⟨v, he, hp⟩ => ?_
  subst he
  exact ChangeSpec.post_blind hp
end Go.Proofs.YtoephflcjllaaaaGreatDoor
