/- Walk of the reference: headed. -/
import Derived.Test.YtoephflcjllaaaaGreatDoorOS
namespace Bags
/-- The columns' check, as a loop holds it. -/
theorem colsOf_go {seen : List Str} {a k : Str} {r : List Str} (h : (nameP a && !seen.contains a && (k == str "int" || k == str "text")) = true) : colsOf seen (a :: k :: r) = (colsOf (seen ++ [a]) r).map ((k == str "text") :: ·) := by
  rw [colsOf, if_pos h]
theorem colsOf_no {seen : List Str} {a k : Str} {r : List Str} (h : (nameP a && !seen.contains a && (k == str "int" || k == str "text")) = false) : colsOf seen (a :: k :: r) = none := by
  rw [colsOf, if_neg (by rw [h]; simp)]
end Bags
namespace Go.Proofs.YtoephflcjllaaaaGreatDoor
open Go.RowKit

/-- What the loop over a table's line holds: so many words read, the columns' names, their kinds; ok: all is well so far. -/
def HSeen (l : List Bags.Str) (i : Nat) (ok : Bool) (names types : List Bags.Str) : Prop :=
  names.length = types.length ∧ i = 2 + 2 * names.length ∧
  if ok = true then Bags.nameP (l.getD 1 []) = true ∧ ∃ kinds : List Bool, types = kinds.map (fun t => if t then Bags.str "text" else Bags.str "int") ∧ Bags.colsOf [] (l.drop 2) = (Bags.colsOf names (l.drop i)).map (kinds ++ ·)
  else Bags.nameP (l.getD 1 []) = false ∨ Bags.colsOf [] (l.drop 2) = none
theorem HSeen.start (l : List Bags.Str) : HSeen l 2 (Bags.nameP (l.getD 1 [])) [] [] := by
  refine ⟨rfl, rfl, ?_⟩
  split
  · rename_i h; exact ⟨h, [], rfl, by simp⟩
  · rename_i h; exact .inl (by simpa using h)
theorem HSeen.step {l : List Bags.Str} {i : Nat} {ok : Bool} {names types : List Bags.Str} (h : HSeen l i ok names types) (hi : i + 1 < l.length) :
    HSeen l (i + 2) (ok && (Bags.nameP l[i] && !names.contains l[i] && (l[i + 1] == Bags.str "int" || l[i + 1] == Bags.str "text"))) (names ++ [l[i]]) (types ++ [l[i + 1]]) := by
  obtain ⟨h1, h2, h3⟩ := h
  refine ⟨by simp [h1], by simp; omega, ?_⟩
  have hd : l.drop i = l[i] :: l[i + 1] :: l.drop (i + 2) := by rw [List.drop_eq_getElem_cons (by omega), List.drop_eq_getElem_cons hi]
  cases ok with
  | false => simpa using h3
  | true =>
    rw [if_pos rfl] at h3
    obtain ⟨hn, kinds, ht, hc⟩ := h3
    rw [hd] at hc
    cases hg : (Bags.nameP l[i] && !names.contains l[i] && (l[i + 1] == Bags.str "int" || l[i + 1] == Bags.str "text")) with
    | false =>
      rw [Bags.colsOf_no hg] at hc
      exact .inr (by rw [hc]; rfl)
    | true =>
      rw [Bags.colsOf_go hg] at hc
      refine ⟨hn, kinds ++ [l[i + 1] == Bags.str "text"], ?_, ?_⟩
      · rw [ht, List.map_append]
        congr 1
        simp only [List.map_cons, List.map_nil, List.cons.injEq, and_true]
        simp only [Bool.and_eq_true, Bool.or_eq_true, beq_iff_eq] at hg
        rcases hg.2 with e | e
        · rw [e, show ((Bags.str "int" == Bags.str "text") : Bool) = false by decide]; rfl
        · rw [e, show ((Bags.str "text" == Bags.str "text") : Bool) = true by decide]; rfl
      · rw [hc, Option.map_map]; congr 1; funext x; simp
/-- At the end. -/
theorem HSeen.stop {l : List Bags.Str} {i : Nat} {ok : Bool} {names types : List Bags.Str} (h : HSeen l i ok names types) (hl : ¬ (l.length < 4 ∨ l.length % 2 = 1 ∨ 14 < l.length)) (hi : ¬ i < l.length) :
    if ok = true then ∃ kinds : List Bool, types = kinds.map (fun t => if t then Bags.str "text" else Bags.str "int") ∧ Bags.headOf l = some (l.getD 1 [], kinds) else Bags.headOf l = none := by
  obtain ⟨h1, h2, h3⟩ := h
  have hh : Bags.headOf l = if Bags.nameP (l.getD 1 []) = true then (Bags.colsOf [] (l.drop 2)).map fun c => (l.getD 1 [], c) else none := by
    unfold Bags.headOf
    rw [if_neg hl]
    match l, hl with
    | [], hl => exact absurd (by simp) hl
    | [_], hl => exact absurd (by simp) hl
    | _ :: n :: r, _ => rfl
  cases ok with
  | false =>
    simp only [Bool.false_eq_true, if_false] at h3 ⊢
    rw [hh]
    rcases h3 with h3 | h3
    · rw [if_neg (by rw [h3]; simp)]
    · rw [h3]; split <;> rfl
  | true =>
    rw [if_pos rfl] at h3 ⊢
    obtain ⟨hn, kinds, ht, hc⟩ := h3
    refine ⟨kinds, ht, ?_⟩
    rw [hh, if_pos hn, hc, List.drop_of_length_le (by omega)]
    simp [Bags.colsOf]
end Go.Proofs.YtoephflcjllaaaaGreatDoor
