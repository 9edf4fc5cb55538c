/- For every text the law Opens returns true: Open of the program refuses just the texts that the document refuses, at the same line, and leaves its argument alone. Conditions: the package variables that the row lists read as it says when the call begins (the card ties them to the text of the program). -/
import Derived.Test.YtoephflcjllaaaaGreatDoorZD
import Derived.Test.YtoephflcjllaaaaGreatDoorZC
import Derived.Test.YtoephflcjllaaaaGreatDoorTie
import Derived.Test.YtoephflcjllaaaaGreatDoorCards
import Derived.SevenTiedAt
namespace Go.Proofs.YtoephflcjllaaaaGreatDoor
open Go.ChangeShapes Go.WideShapes Go.ChangeAt Go.RowKit
open Go.ChangeMaps (open_string shut_string)

/-- What the row's list gives. -/
theorem opens_vars {W : World} (h : laidMetH Tryz.prog Rows.opensRow.laid W) : Vars W ∧ W.cell? ⟨0, 0, none⟩ = some (rty 36) := by
  have h' : laidMet Tryz.prog [("math/bits.deBruijn32tab", Rows.laid_math_bits_deBruijn32tab), ("math/bits.deBruijn64tab", Rows.laid_math_bits_deBruijn64tab), ("internal/strconv.uint64pow10", Rows.laid_internal_strconv_uint64pow10), ("unicode/utf8.acceptRanges", Rows.laid_unicode_utf8_acceptRanges), ("strconv.ErrRange", Rows.laid_strconv_ErrRange), ("strconv.ErrSyntax", Rows.laid_strconv_ErrSyntax), ("unicode/utf8.first", Rows.laid_unicode_utf8_first)] W ∧
      handlesMet Tryz.prog [("errors.errorType", Rows.laid_errors_errorType)] W := h
  exact ⟨⟨var_size h'.1.tail, syn_var h'.1.tail.tail.tail.tail.tail, ran_var h'.1.tail.tail.tail.tail⟩, handle_cell rfl h'.2⟩
set_option maxRecDepth 100000 in
theorem opens_met (os : Os) (args : Array Value) : laidMetH Tryz.prog Rows.opensRow.laid ((laidWorld os Rows.opensRow.laid).forCall (fun _ _ => 0) ⟨#[], args, []⟩).memory :=
  laidWorld_met os _ args (by kernel_rfl) (by kernel_rfl) (by kernel_rfl)

set_option maxRecDepth 100000 in
theorem opens_lifted (os : Os) (started : os.Started) (H : Type) (enc : TypeId × Value → H) :
    ReturnsInHanded {} Tryz.checked os 3 .any (fun w args => (Rows.opensSpec.pre enc Tryz.prog Tryz.f3 [] false w args ∧ laidMetH Tryz.prog Rows.opensRow.laid w) ∧ sizedMet enc Tryz.prog Tryz.f3 (OpenSpec.ofChange Rows.opensSpec) false w args)
      (Rows.opensSpec.post enc Tryz.prog Tryz.f3 false true false false) := by
  refine returns_laid (X := fun w _ => laidMetH Tryz.prog Rows.opensRow.laid w) (fun _ _ _ hh h => h.of_heap hh) started (by kernel_rfl) Tryz.func3
    (ChangeSpec.witness_shaped (enc := enc) (C := Tryz.checked) (os := os) (X := fun w _ => laidMetH Tryz.prog Rows.opensRow.laid w) false (laidWorld os Rows.opensRow.laid) #[.string ⟨#[]⟩] 8 (by first | rfl | exact World.layVars_os _ _ _)
      (World.shaped_of_ZipB (by kernel_rfl) (by kernel_rfl)) (by kernel_rfl) (by kernel_rfl) (by kernel_rfl) (opens_met os _)) ?_
  intro W base args ds gs before hval0 hW hsh hL
  have hval : ∀ (j : Nat) t v, Tryz.f3.params[j]? = some t → args[j]? = some v → Value.okWide Tryz.prog W .any base t v := hval0
  have hW' := hW
  obtain ⟨p, q, hA0, hV, rfl, _, _⟩ := hW
  have hA : DataW.TrodAll enc Tryz.prog W 0 (fun _ => true) true Tryz.f3.params.toList args.toList ds p := hA0
  rw [Tryz.params3] at hA hval
  obtain ⟨v0, d0, rfl, rfl, h0⟩ := trodAll_one hA
  obtain ⟨rfl, rfl⟩ := trodVars_none hV
  obtain ⟨s, rfl, rfl, rfl, ws⟩ := open_string Tryz.underlying9 (hval 0 9 v0 rfl rfl) h0
  have hs : s.size ≤ 9223372036854775807 := by have := ws; unfold maxLen at this; omega
  obtain ⟨hv, hE⟩ := opens_vars hL
  clear hA0 hval0
  simp only [List.append_nil] at hW'
  refine (opens_any s W (max_is hsh) hv hE hs).mono fun e W' ⟨he, hb⟩ => ?_
  subst he
  exact ⟨_, rfl, _, _, _, [], [], [], hW', trodAll_mk1 (shut_bool Tryz.underlying4 _), trodAll_mk1 (shut_string Tryz.underlying9 ws), rfl, hb.frame _, fun h => by cases h⟩

theorem opens_row : Rows.OpensSaid :=
  OpenClaim.holds_of_wide 3 Tryz.f3 rfl rfl rfl rfl rfl rfl rfl ⟨rfl, rfl, rfl, rfl, rfl⟩ rfl rfl rfl rfl rfl (by kernel_rfl) Tryz.func3 (by kernel_rfl)
    (of_decide_eq_true (by kernel_rfl)) (by unfold Func.isWrapper; first | (rw [if_pos (by decide +kernel)]; kernel_rfl) | (rw [if_neg (by decide +kernel)]; exact ⟨rfl, rfl⟩))
    (fun os started H enc _ => opens_lifted os started H enc)
theorem opens_holds : Rows.OpensCardSaid :=
  Claim7.holds_tied_plain_at .later [] [.data, .data, .data, .data, .handle, .sentinel, .sentinel, .pinned] true (true, "1eedd1fb64cc1afc9a1d80db2488e4e72569d86aa7177f4649503ba5507d2fbc") true
    opens_row (fun _ h => by cases h) (by kernel_rfl) (fun _ h => by cases h) opens_row_tie rfl ⟨rfl, rfl⟩ (by kernel_rfl) rfl
    (fun f fn hf hfn => by
      obtain rfl : f = 3 := Option.some.inj ((show Tryz.prog.funcNamed "bags/bagslaw.Opens" = some 3 by kernel_rfl).symm.trans hf) |>.symm
      obtain rfl : fn = Tryz.f3 := (Option.some.inj (Tryz.func3.symm.trans hfn)).symm
      exact ⟨by kernel_rfl, fun j t ht => by
        rw [Tryz.params3] at ht
        have hm : t ∈ [9] := by simpa using Array.mem_of_getElem? ht
        have hall : ([9].all fun u => !Tryz.prog.wantsStandIn u) = true := by kernel_rfl
        exact (show Tryz.prog.wantsStandIn t = false by simpa using List.all_eq_true.1 hall t hm)⟩)
    (by kernel_rfl)
#print axioms opens_holds
end Go.Proofs.YtoephflcjllaaaaGreatDoor
