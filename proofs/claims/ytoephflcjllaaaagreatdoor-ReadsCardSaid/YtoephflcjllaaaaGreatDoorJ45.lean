/- For every text the law Reads returns true: the program's Print takes just the texts that the document's grammar takes, and tells of any other the document's error and its place; the argument is left alone. Conditions: the package variables that the row lists read as it says when the call begins (the card ties them to the text of the program). -/
import Derived.Test.YtoephflcjllaaaaGreatDoorJ41
import Derived.Test.YtoephflcjllaaaaGreatDoorJ40
import Derived.Test.YtoephflcjllaaaaGreatDoorJ44
import Derived.Test.YtoephflcjllaaaaGreatDoorTie
import Derived.Test.YtoephflcjllaaaaGreatDoorCards
import Derived.SevenTiedAt
/- Walks: the law Reads. -/
namespace Go.Proofs.YtoephflcjllaaaaGreatDoor
open Go.RowKit

set_option maxRecDepth 100000 in
set_option maxHeartbeats 2000000 in
theorem reads_any (hC : ContSaid) (hP : ParseSaid) (s : ByteArray) (w : World) (hs : s.size ≤ 9223372036854775807) (hv : ∀ W, Below w.heap.size w W → Vars W) (ht : ∀ W, Below w.heap.size w W → Tab W) (hE : w.cell? ⟨0, 0, none⟩ = some (rty 36)) :
    Calls Tryz.prog 4 #[.string s] w fun e w' => e = .returned (.bool true) ∧ Below w.heap.size w w' := by
  by_cases hlong : 8192 < s.size
  · have hlong' : (8192 : Int) < (s.size : Int) := by omega
    clear hv ht hE
    go_enter Tryz.func4, Tryz.ntmps4
    go_wp2_with fail
    go_ret
    exact ⟨rfl, Below.refl _ _⟩
  · have hlong' : ¬ (8192 : Int) < (s.size : Int) := by omega
    have HP := Lib.hid (plainPrint_any hC hP s w (by omega) hv ht hE)
    have HD := Lib.hid (fun W => read_ref s W (by omega))
    clear hv ht hE
    go_enter Tryz.func4, Tryz.ntmps4
    go_wp2_with fail
    refine HP.out.mono ?_
    rintro e w2 ⟨hb, ⟨k, p, rfl, h1⟩ | ⟨t, rfl, h1⟩⟩
    · have HB := Lib.hid hb
      have H1 := Lib.hid h1
      have hsz := hb.size
      clear hb h1
      go_wp2_with fail
      refine (HD.out _).mono ?_
      rintro e w3 ⟨hb3, ⟨k', p', _, h2, rfl⟩ | ⟨b, t, h2, rfl, _⟩⟩
      · have hu := Bags.Reading.uniq H1.out h2
        injection hu with hu
        injection hu with hk hp
        subst hk hp
        have HB3 := Lib.hid hb3
        clear hb3 h2
        go_wp2_with fail
        go_ret
        exact ⟨rfl, HB.out.trans (HB3.out.mono hsz)⟩
      · exact absurd (Bags.Reading.uniq H1.out h2) (by simp)
    · have HB := Lib.hid hb
      have H1 := Lib.hid h1
      have hsz := hb.size
      clear hb h1
      go_wp2_with fail
      refine (HD.out _).mono ?_
      rintro e w3 ⟨hb3, ⟨k', p', _, h2, rfl⟩ | ⟨b, t, h2, rfl, _⟩⟩
      · exact absurd (Bags.Reading.uniq H1.out h2) (by simp)
      · have HB3 := Lib.hid hb3
        clear hb3 h2
        go_wp2_with fail
        go_ret
        exact ⟨rfl, HB.out.trans (HB3.out.mono hsz)⟩
end Go.Proofs.YtoephflcjllaaaaGreatDoor
namespace Go.Proofs.YtoephflcjllaaaaGreatDoor
open Go.ChangeShapes Go.WideShapes Go.ChangeAt Go.RowKit
open Go.ChangeMaps (open_string shut_string)

set_option maxRecDepth 100000 in
theorem reads_met (os : Os) (args : Array Value) : laidMetH Tryz.prog Rows.readsRow.laid ((laidWorld os Rows.readsRow.laid).forCall (fun _ _ => 0) ⟨#[], args, []⟩).memory :=
  laidWorld_met os _ args (by kernel_rfl) (by kernel_rfl) (by kernel_rfl)

set_option maxRecDepth 100000 in
theorem reads_lifted (os : Os) (started : os.Started) (H : Type) (enc : TypeId × Value → H) :
    ReturnsInHanded {} Tryz.checked os 4 .any (fun w args => (Rows.readsSpec.pre enc Tryz.prog Tryz.f4 [] false w args ∧ laidMetH Tryz.prog Rows.readsRow.laid w) ∧ sizedMet enc Tryz.prog Tryz.f4 (OpenSpec.ofChange Rows.readsSpec) false w args)
      (Rows.readsSpec.post enc Tryz.prog Tryz.f4 false true false false) := by
  refine returns_laid (X := fun w _ => laidMetH Tryz.prog Rows.readsRow.laid w) (fun _ _ _ hh h => h.of_heap hh) started (by kernel_rfl) Tryz.func4
    (ChangeSpec.witness_shaped (enc := enc) (C := Tryz.checked) (os := os) (X := fun w _ => laidMetH Tryz.prog Rows.readsRow.laid w) false (laidWorld os Rows.readsRow.laid) #[.string ⟨#[]⟩] 8 (by first | rfl | exact World.layVars_os _ _ _)
      (World.shaped_of_ZipB (by kernel_rfl) (by kernel_rfl)) (by kernel_rfl) (by kernel_rfl) (by kernel_rfl) (reads_met os _)) ?_
  intro W base args ds gs before hval0 hW hsh hL
  have hval : ∀ (j : Nat) t v, Tryz.f4.params[j]? = some t → args[j]? = some v → Value.okWide Tryz.prog W .any base t v := hval0
  have hW' := hW
  obtain ⟨p, q, hA0, hV, rfl, _, _⟩ := hW
  have hA : DataW.TrodAll enc Tryz.prog W 0 (fun _ => true) true Tryz.f4.params.toList args.toList ds p := hA0
  rw [Tryz.params4] at hA hval
  obtain ⟨v0, d0, rfl, rfl, h0⟩ := trodAll_one hA
  obtain ⟨rfl, rfl⟩ := trodVars_none hV
  obtain ⟨s, rfl, rfl, rfl, ws⟩ := open_string Tryz.underlying9 (hval 0 9 v0 rfl rfl) h0
  have hs : s.size ≤ 9223372036854775807 := by have := ws; unfold maxLen at this; omega
  obtain ⟨hv, hE, ht⟩ := list_vars hL
  clear hA0 hval0
  simp only [List.append_nil] at hW'
  refine (reads_any cont_said parse_said s W hs (fun _ hb => hv.later hb) (fun _ hb => ht.later hb) hE).mono fun e W' ⟨he, hb⟩ => ?_
  subst he
  exact ⟨_, rfl, _, _, _, [], [], [], hW', trodAll_mk1 (shut_bool Tryz.underlying4 _), trodAll_mk1 (shut_string Tryz.underlying9 ws), rfl, hb.frame _, fun h => by cases h⟩

theorem reads_row : Rows.ReadsSaid :=
  OpenClaim.holds_of_wide 4 Tryz.f4 rfl rfl rfl rfl rfl rfl rfl ⟨rfl, rfl, rfl, rfl, rfl⟩ rfl rfl rfl rfl rfl (by kernel_rfl) Tryz.func4 (by kernel_rfl)
    (of_decide_eq_true (by kernel_rfl)) (by unfold Func.isWrapper; first | (rw [if_pos (by decide +kernel)]; kernel_rfl) | (rw [if_neg (by decide +kernel)]; exact ⟨rfl, rfl⟩))
    (fun os started H enc _ => reads_lifted os started H enc)
theorem reads_holds : Rows.ReadsCardSaid :=
  Claim7.holds_tied_plain_at .later [] [.data, .data, .data, .handle, .sentinel, .sentinel] true (true, "1eedd1fb64cc1afc9a1d80db2488e4e72569d86aa7177f4649503ba5507d2fbc") true
    reads_row (fun _ h => by cases h) (by kernel_rfl) (fun _ h => by cases h) reads_row_tie rfl ⟨rfl, rfl⟩ (by kernel_rfl) rfl
    (fun f fn hf hfn => by
      obtain rfl : f = 4 := Option.some.inj ((show Tryz.prog.funcNamed "bags/bagslaw.Reads" = some 4 by kernel_rfl).symm.trans hf) |>.symm
      obtain rfl : fn = Tryz.f4 := (Option.some.inj (Tryz.func4.symm.trans hfn)).symm
      exact ⟨by kernel_rfl, fun j t ht => by
        rw [Tryz.params4] at ht
        have hm : t ∈ [9] := by simpa using Array.mem_of_getElem? ht
        have hall : ([9].all fun u => !Tryz.prog.wantsStandIn u) = true := by kernel_rfl
        exact (show Tryz.prog.wantsStandIn t = false by simpa using List.all_eq_true.1 hall t hm)⟩)
    (by kernel_rfl)
#print axioms reads_holds
end Go.Proofs.YtoephflcjllaaaaGreatDoor
