/- What the list of the rows Reads and Prints gives a walk; slices.Contains off the shelf. -/
import Derived.Test.YtoephflcjllaaaaGreatDoorJ43
import Derived.Test.YtoephflcjllaaaaGreatDoorJ09
import Derived.Test.YtoephflcjllaaaaGreatDoorJ05
import Derived.Test.YtoephflcjllaaaaGreatDoorJ42
import Derived.Lib.SmallJoins
namespace Go.Proofs.YtoephflcjllaaaaGreatDoor
open Go.ChangeShapes Go.WideShapes Go.ChangeAt Go.RowKit

theorem tx_inj {a b : Bags.Str} (h : tx a = tx b) : a = b := by
  have := congrArg bs h
  simpa using this
theorem cont_said : ContSaid := fun b l x W hl hs => by
  refine (Tryz.slices_Contains_string b 0 l.length l.length (l.map tx) x W (by simp) (by omega) (fun j hj => ?_)).mono ?_
  · have hj' : j < l.length := by simpa using hj
    rw [Nat.zero_add, hs j l[j] (by simp [hj'])]
    simp [List.getD, hj']
  · rintro e w' ⟨rfl, rfl⟩
    refine ⟨?_, rfl⟩
    congr 2
    rw [Bool.eq_iff_iff, Lib.containsS_iff, List.take_of_length_le (by simp), List.contains_iff_mem, List.mem_map]
    constructor
    · rintro ⟨u, hu, rfl⟩
      simpa using hu
    · intro h
      exact ⟨_, h, tx_bs x⟩

theorem tab_var {W : World} {r : List (String × DataW Unit)} (h : laidMet Tryz.prog (("internal/strconv.uint64pow10", Rows.laid_internal_strconv_uint64pow10) :: r) W) : Lib.TabIs Tryz.prog W "internal/strconv.uint64pow10" .u64 Lib.pow10Tab := by
  have he : (Rows.laid_internal_strconv_uint64pow10 : DataW Unit) = Lib.tabData .u64 Lib.pow10Tab := by kernel_rfl
  rw [he] at h
  exact Lib.tabIs_of_head (g := 6) (t := 293) (e := 218) (n := 20) (by kernel_rfl) (by kernel_rfl) (by kernel_rfl) (by kernel_rfl) (by kernel_rfl) (by kernel_rfl) h
theorem tab_is {W : World} (h : Lib.TabIs Tryz.prog W "internal/strconv.uint64pow10" .u64 Lib.pow10Tab) : Tab W := fun W' hF =>
  Joins.tab_stays (g := 6) (by kernel_rfl) h (hF.below (B := W.heap.size) (Nat.le_refl _) fun _ h => h.elim) (Nat.le_refl _)
theorem Tab.later {W W' : World} (h : Tab W) (hb : Below W.heap.size W W') : Tab W' := fun W2 hF => h W2 ((Fr.of_below hb).trans hF fun _ _ h => h)

/-- What the list of the rows Reads and Prints gives. -/
theorem list_vars {W : World} (h : laidMetH Tryz.prog Rows.readsRow.laid W) : Vars W ∧ W.cell? ⟨0, 0, none⟩ = some (rty 36) ∧ Tab W := by
  have h' : laidMet Tryz.prog [("math/bits.deBruijn32tab", Rows.laid_math_bits_deBruijn32tab), ("math/bits.deBruijn64tab", Rows.laid_math_bits_deBruijn64tab), ("internal/strconv.uint64pow10", Rows.laid_internal_strconv_uint64pow10), ("strconv.ErrRange", Rows.laid_strconv_ErrRange), ("strconv.ErrSyntax", Rows.laid_strconv_ErrSyntax)] W ∧
      handlesMet Tryz.prog [("errors.errorType", Rows.laid_errors_errorType)] W := h
  exact ⟨⟨var_size h'.1.tail, syn_var h'.1.tail.tail.tail.tail, ran_var h'.1.tail.tail.tail⟩, handle_cell rfl h'.2, tab_is (tab_var h'.1.tail.tail)⟩
end Go.Proofs.YtoephflcjllaaaaGreatDoor
