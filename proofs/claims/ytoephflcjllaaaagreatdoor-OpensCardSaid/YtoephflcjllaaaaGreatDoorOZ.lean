/- Walks of the reference: tables in a row; find. -/
import Derived.Test.YtoephflcjllaaaaGreatDoorOY
namespace Go.Proofs.YtoephflcjllaaaaGreatDoor
open Go.RowKit Go.Maps Go.WideMaps

/-- A table as the reference holds it: name, columns, types, rows. -/
abbrev RT := Bags.Str × Value × Value × Value
def tabCells (x : RT) : List Value := [.string (tx x.1), x.2.1, x.2.2.1, x.2.2.2]
theorem elem_tabs : Elem Tryz.prog 24 46 4 88 := ⟨Tryz.underlying24, by kernel_rfl, by decide⟩
theorem flat4 (l : List RT) : (l.flatMap tabCells).length = l.length * 4 := by
  induction l with
  | nil => rfl
  | cons w r ih => simp [tabCells, ih]; omega
theorem tab_get (l : List RT) : ∀ (i : Nat) (h : i < l.length) (j : Nat), j < 4 → (l.flatMap tabCells)[i * 4 + j]? = (tabCells l[i])[j]? := by
  induction l with
  | nil => intro i h; simp at h
  | cons x r ih =>
    intro i h j hj
    cases i with
    | zero =>
      rw [List.flatMap_cons, List.getElem?_append_left (by simp [tabCells]; omega)]
      simp
    | succ i =>
      rw [List.flatMap_cons, List.getElem?_append_right (by simp [tabCells]; omega)]
      have := ih i (by simpa using h) j hj
      rw [show (i + 1) * 4 + j - (tabCells x).length = i * 4 + j by simp [tabCells]; omega, this]
      simp
/-- A row of blocks of cells, as a slice. -/
theorem own_rows {w : World} {base : Nat} {e : TypeId} {size : Nat} {v : Value} {n : Nat} {xs : List Value} (h : w.ownsRow base e size v n xs) :
    ∃ ba cap, v = .slice ba n cap ∧ n ≤ cap ∧ cap ≤ maxLen ∧ (0 < n → ∃ g, ba = some ⟨g, 0, none⟩ ∧ g < w.heap.size ∧ base ≤ g ∧ v.ownBlock = some g ∧ (∀ i, i < n * size → w.cell? ⟨g, i, none⟩ = xs[i]?) ∧ ∀ i, w.frozen? ⟨g, i, none⟩ = false) := by
  obtain ⟨h1, h2⟩ := h
  rcases h2 with ⟨rfl, rfl⟩ | ⟨g, cap, cur, rfl, h3, h4, h5, h6, h7, h8⟩
  · exact ⟨none, 0, rfl, Nat.le_refl _, by unfold maxLen; omega, fun h => absurd h (by omega)⟩
  · refine ⟨some ⟨g, 0, none⟩, cap, rfl, h5, h6, fun _ => ⟨g, rfl, lt_of_some h4, h3, by simp [Value.ownBlock], fun i hi => ?_, fun i => by simp [World.frozen?, h4]⟩⟩
    have : w.cell? ⟨g, i, none⟩ = cur[i]? := by simp [World.cell?, h4]
    rw [this, ← h8, List.getElem?_take_of_lt hi, Array.getElem?_toList]
theorem own_put {w : World} {base : Nat} {e : TypeId} {size n g cap : Nat} {xs : List Value} (h : w.ownsRow base e size (.slice (some ⟨g, 0, none⟩) n cap) n xs) {i : Nat} (_hi : i < n * size) (u : Value) : (w.setCell ⟨g, i, none⟩ u).ownsRow base e size (.slice (some ⟨g, 0, none⟩) n cap) n (xs.set i u) := by
  obtain ⟨h1, h2⟩ := h
  refine ⟨by rw [List.length_set]; exact h1, ?_⟩
  rcases h2 with ⟨h2, _⟩ | ⟨g', cap', cur, h2, h3, h4, h5, h6, h7, h8⟩
  · cases h2
  · injection h2 with e1 _ e3
    injection e1 with e1
    injection e1 with e1
    subst e1 e3
    refine .inr ⟨g, cap, cur.setIfInBounds i u, rfl, h3, ?_, h5, h6, by simpa using h7, ?_⟩
    · simp [World.setCell, Array.getElem?_modify, h4]
    · rw [Array.toList_setIfInBounds, List.take_set, h8]

set_option maxRecDepth 100000 in
set_option maxHeartbeats 1000000 in
theorem find_ref (l : List RT) (v : Value) (s : Bags.Str) (w : World) (base : Nat) (hr : w.ownsRow base 46 4 v l.length (l.flatMap tabCells)) :
    Calls Tryz.prog 16 #[v, .string (tx s)] w fun e w' => (∃ r : Int, e = .returned (.int .i64 r) ∧ decide (0 ≤ r) = (l.map (·.1)).contains s) ∧ w' = w := by
  obtain ⟨ba, cap, rfl, hn, hcap, hcells⟩ := own_rows hr
  unfold maxLen at hcap
  have HC := Lib.hid hcells
  generalize hB : (l.map (·.1)).contains s = B
  have HBB := Lib.hid hB
  clear hcells hr hB
  go_enter Tryz.func16, Tryz.ntmps16
  go_wp2_with fail
  go_loop [5] (fun v => ∃ k : Nat, v = .int .i64 k ∧ k ≤ l.length ∧ ∀ x ∈ l.take k, x.1 ≠ s) (fun v => l.length - (intOf v).toNat)
  case atStart => exact ⟨0, rfl, by omega, by simp⟩
  case round =>
    obtain ⟨k, rfl, hk, hno⟩ := hrel
    have HN := Lib.hid hno
    clear hno
    by_cases hlt : k < l.length
    · have hlt' : (k : Int) < (l.length : Int) := by omega
      obtain ⟨g, rfl, hg, _, _, hc, _⟩ := HC.out (by omega)
      have c0 := hc (k * 4) (by omega)
      rw [show k * 4 = k * 4 + 0 from rfl, tab_get l k hlt 0 (by omega), show (tabCells l[k])[0]? = some (.string (tx l[k].1)) from rfl] at c0
      simp only [Nat.add_zero] at c0
      have htk : l.take (k + 1) = l.take k ++ [l[k]] := by rw [List.take_add_one]; simp [hlt]
      have he : ((tx l[k].1).toList == (tx s).toList) = decide (l[k].1 = s) := by rw [tx_toList, tx_toList, Bool.eq_iff_iff]; simp
      by_cases hm : l[k].1 = s
      · have hy : ((tx l[k].1).toList == (tx s).toList) = true := by rw [he]; simpa using hm
        have hr : B = true := by rw [← HBB.out, List.contains_iff_mem, ← hm]; exact List.mem_map_of_mem (List.getElem_mem _)
        clear htk he hm hc
        go_wp2_with fail
        go_ret
        exact ⟨⟨k, rfl, by simp⟩, rfl⟩
      · have hy : ((tx l[k].1).toList == (tx s).toList) = false := by rw [he]; simpa using hm
        have HX := Lib.hid (show ∀ x ∈ l.take (k + 1), x.1 ≠ s by
          rw [htk]
          intro x hx
          rcases List.mem_append.1 hx with h | h
          · exact HN.out x h
          · simp at h; subst h; exact hm)
        clear htk he hm hc
        go_wp2_with fail
        exact ⟨⟨k + 1, by simp, by omega, HX.out⟩, by simp [intOf]; omega⟩
    · have hlt' : ¬ (k : Int) < (l.length : Int) := by omega
      have hr : B = false := by
        rw [← HBB.out, Bool.eq_false_iff, ne_eq, List.contains_iff_mem]
        intro h
        obtain ⟨x, hx, hxs⟩ := List.mem_map.1 h
        exact HN.out x (by rw [List.take_of_length_le (by omega)]; exact hx) hxs
      go_wp2_with fail
      go_ret
      exact ⟨⟨-1, rfl, by simp⟩, rfl⟩
end Go.Proofs.YtoephflcjllaaaaGreatDoor
