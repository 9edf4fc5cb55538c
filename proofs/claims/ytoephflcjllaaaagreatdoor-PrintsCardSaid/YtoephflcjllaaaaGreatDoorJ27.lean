/- Rows of texts in memory; an append within a region that draws; has, find. -/
import Derived.Test.YtoephflcjllaaaaGreatDoorJ26
import Derived.Test.YtoephflcjllaaaaGreatDoorJ06
import Derived.Test.YtoephflcjllaaaaGreatDoorJ22
import Derived.Maps.AppendAt
import Derived.Deep.RegionLawGrows
namespace Go.Proofs.YtoephflcjllaaaaGreatDoor
open Go.RowKit

/-- A row of one cell each, as a slice. -/
theorem own_form {w : World} {base : Nat} {e : TypeId} {v : Value} {n : Nat} {xs : List Value} (h : w.ownsRow base e 1 v n xs) :
    ∃ ba cap, v = .slice ba n cap ∧ n ≤ cap ∧ cap ≤ maxLen ∧ (0 < n → ∃ g, ba = some ⟨g, 0, none⟩ ∧ g < w.heap.size ∧ v.ownBlock = some g ∧ ∀ i, i < n → w.cell? ⟨g, i, none⟩ = xs[i]?) := by
  obtain ⟨h1, h2⟩ := h
  rcases h2 with ⟨rfl, rfl⟩ | ⟨g, cap, cur, rfl, h3, h4, h5, h6, h7, h8⟩
  · exact ⟨none, 0, rfl, Nat.le_refl _, by unfold maxLen; omega, fun h => absurd h (by omega)⟩
  · refine ⟨some ⟨g, 0, none⟩, cap, rfl, h5, h6, fun _ => ⟨g, rfl, lt_of_some h4, by simp [Value.ownBlock], fun i hi => ?_⟩⟩
    have : w.cell? ⟨g, i, none⟩ = cur[i]? := by simp [World.cell?, h4]
    rw [this, ← h8, List.getElem?_take_of_lt (by omega), Array.getElem?_toList]

theorem step_append_one {P : Program} {ops : Array Oper} {o : Oper} {a : Act} {w : World} {K : Act → World → Prop} {Q : Exit → Act → World → Prop} {E : Prop}
    (hg : o.guard = none) (s x : Operand) {t : TypeId} (hop : o.op = Op.call { callee := Callee.builtin Builtin.append, args := #[s, x], argTypes := #[t, t] })
    {base : Nat} {e : TypeId} {size bytes : Nat} (hE : Elem P t e size bytes) {v : Value} {n : Nat} {xs : List Value} (hs : a.eval s = v) (hown : w.ownsRow base e size v n xs)
    {cs : Array Value} {g : Nat} (hx : a.eval x = .slice (some ⟨g, 0, none⟩) 1 1) (hb : Blk w g e cs) (hcs : cs.size = size) (h1 : ∀ u ∈ cs.toList, u.oneCell' = true)
    (h63 : n + 1 ≤ maxLen) (hbytes : (n + 1) * bytes ≤ 140737488355328) (hbase : base ≤ w.heap.size)
    (hK : ∀ v' w', w'.ownsRow base e size v' (n + 1) (xs ++ cs.toList) → w.grownBy w' v.ownBlock → (v'.ownBlock = v.ownBlock ∨ v'.ownBlock = some w.heap.size) → K (a.put o.dst v') w') :
    if Region.wanted o (yielded ops a.tmps) = true then Oper.wp P o a w K Q else E := by
  have hw : Region.wanted o (yielded ops a.tmps) = true := by simp [Region.wanted, hg]
  rw [if_pos hw]
  obtain ⟨i, z, hi, hz, hsz, hby, hzc⟩ := hE.parts
  have hcells : ∀ j u, cs.toList[j]? = some u → w.cell? ((⟨g, 0, none⟩ : Addr).add j) = some u := by
    intro j u hu
    have : (⟨g, 0, none⟩ : Addr).add j = ⟨g, j, none⟩ := by unfold Addr.add; split <;> simp_all
    rw [this, hb.cell j]
    simpa using hu
  obtain ⟨v', w', hr, h2, h3, h4, h5⟩ := run_append_own_at (P := P) (w := w) base t o.type e i z size bytes hE.sl hi hz hsz hby hzc hE.pos v n xs hown ⟨g, 0, none⟩ 1 1 cs.toList (by simp [hcs]) hcells h1 h63 hbytes hbase
  unfold Oper.wp
  simp [execOp, hop, resolve, invoke, builtin, hs, hx, hr, Result.andThen]
  exact hK v' w' h2 h3 h5

theorem tx_toList (l : List UInt8) : (tx l).toList = l := bs_toList _
theorem str_eq {s : ByteArray} {l : List UInt8} : (s.toList == l) = decide (bs s = l) := by rw [bs_toList, Bool.eq_iff_iff]; simp

set_option maxRecDepth 100000 in
set_option maxHeartbeats 1000000 in
theorem has_ref (l : List Bags.Str) (v : Value) (s : ByteArray) (w : World) (base : Nat) (hr : w.ownsRow base 9 1 v l.length (l.map strV)) :
    Calls Tryz.prog 35 #[v, .string s] w fun e w' => e = .returned (.bool (l.contains (bs s))) ∧ w = w' := by
  obtain ⟨ba, cap, rfl, hn, hcap, hcells⟩ := own_form hr
  unfold maxLen at hcap
  have HC := Lib.hid hcells
  generalize hB : l.contains (bs s) = B
  have HBB := Lib.hid hB
  clear hcells hr hB
  go_enter Tryz.func35, Tryz.ntmps35
  go_wp2_with fail
  go_loop [5] (fun v => ∃ k : Nat, v = .int .i64 k ∧ k ≤ l.length ∧ ∀ x ∈ l.take k, x ≠ bs s) (fun v => l.length - (intOf v).toNat)
  case atStart => exact ⟨0, rfl, by omega, by simp⟩
  case round =>
    obtain ⟨k, rfl, hk, hno⟩ := hrel
    have HN := Lib.hid hno
    clear hno
    by_cases hlt : k < l.length
    · have hlt' : (k : Int) < (l.length : Int) := by omega
      obtain ⟨g, rfl, hg, _, hc⟩ := HC.out (by omega)
      have c0 := hc k hlt
      have hx : (l.map strV)[k]? = some (.string (tx l[k])) := by simp [strV, hlt]
      rw [hx] at c0
      have htk : l.take (k + 1) = l.take k ++ [l[k]] := by rw [List.take_add_one]; simp [hlt]
      have he : ((tx l[k]).toList == s.toList) = decide (l[k] = bs s) := by rw [tx_toList, bs_toList, Bool.eq_iff_iff]; simp
      by_cases hm : l[k] = bs s
      · have hy : ((tx l[k]).toList == s.toList) = true := by rw [he]; simpa using hm
        have hr : B = true := by rw [← HBB.out, List.contains_iff_mem, ← hm]; exact List.getElem_mem _
        clear hx htk he hm hc
        go_wp2_with fail
        go_ret
        exact ⟨rfl, rfl⟩
      · have hy : ((tx l[k]).toList == s.toList) = false := by rw [he]; simpa using hm
        have HX := Lib.hid (show ∀ x ∈ l.take (k + 1), x ≠ bs s by
          rw [htk]
          intro x hx
          rcases List.mem_append.1 hx with h | h
          · exact HN.out x h
          · simp at h; subst h; exact hm)
        clear hx htk he hm hc
        go_wp2_with fail
        exact ⟨⟨k + 1, by simp, by omega, HX.out⟩, by simp [intOf]; omega⟩
    · have hlt' : ¬ (k : Int) < (l.length : Int) := by omega
      have hr : B = false := by
        rw [← HBB.out, Bool.eq_false_iff, ne_eq, List.contains_iff_mem]
        intro h
        exact HN.out _ (by rw [List.take_of_length_le (by omega)]; exact h) rfl
      go_wp2_with fail
      go_ret
      exact ⟨rfl, rfl⟩
end Go.Proofs.YtoephflcjllaaaaGreatDoor
/- Walk of the reference: headed. -/
namespace Bags
/-- The columns' check, as a loop holds it. -/
theorem colsOf_go {seen : List Str} {a k : Str} {r : List Str} (h : (nameP a && !seen.contains a && (k == str "int" || k == str "text")) = true) : colsOf seen (a :: k :: r) = (colsOf (seen ++ [a]) r).map ((k == str "text") :: ·) := by
  rw [colsOf, if_pos h]
theorem colsOf_no {seen : List Str} {a k : Str} {r : List Str} (h : (nameP a && !seen.contains a && (k == str "int" || k == str "text")) = false) : colsOf seen (a :: k :: r) = none := by
  rw [colsOf, if_neg (by rw [h]; simp)]
end Bags
namespace Go.Proofs.YtoephflcjllaaaaGreatDoor
open Go.RowKit

/-- What the loop over a table's line holds: so many words read, the columns' names, their kinds; ok: all is well so far. -/
def HSeen (l : List Bags.Str) (i : Nat) (ok : Bool) (names types : List Bags.Str) : Prop :=
  names.length = types.length ∧ i = 2 + 2 * names.length ∧
  if ok = true then Bags.nameP (l.getD 1 []) = true ∧ ∃ kinds : List Bool, types = kinds.map (fun t => if t then Bags.str "text" else Bags.str "int") ∧ Bags.colsOf [] (l.drop 2) = (Bags.colsOf names (l.drop i)).map (kinds ++ ·)
  else Bags.nameP (l.getD 1 []) = false ∨ Bags.colsOf [] (l.drop 2) = none
theorem HSeen.start (l : List Bags.Str) : HSeen l 2 (Bags.nameP (l.getD 1 [])) [] [] := by
  refine ⟨rfl, rfl, ?_⟩
  split
  · rename_i h; exact ⟨h, [], rfl, by simp⟩
  · rename_i h; exact .inl (by simpa using h)
theorem HSeen.step {l : List Bags.Str} {i : Nat} {ok : Bool} {names types : List Bags.Str} (h : HSeen l i ok names types) (hi : i + 1 < l.length) :
    HSeen l (i + 2) (ok && (Bags.nameP l[i] && !names.contains l[i] && (l[i + 1] == Bags.str "int" || l[i + 1] == Bags.str "text"))) (names ++ [l[i]]) (types ++ [l[i + 1]]) := by
  obtain ⟨h1, h2, h3⟩ := h
  refine ⟨by simp [h1], by simp; omega, ?_⟩
  have hd : l.drop i = l[i] :: l[i + 1] :: l.drop (i + 2) := by rw [List.drop_eq_getElem_cons (by omega), List.drop_eq_getElem_cons hi]
  cases ok with
  | false => simpa using h3
  | true =>
    rw [if_pos rfl] at h3
    obtain ⟨hn, kinds, ht, hc⟩ := h3
    rw [hd] at hc
    cases hg : (Bags.nameP l[i] && !names.contains l[i] && (l[i + 1] == Bags.str "int" || l[i + 1] == Bags.str "text")) with
    | false =>
      rw [Bags.colsOf_no hg] at hc
      exact .inr (by rw [hc]; rfl)
    | true =>
      rw [Bags.colsOf_go hg] at hc
      refine ⟨hn, kinds ++ [l[i + 1] == Bags.str "text"], ?_, ?_⟩
      · rw [ht, List.map_append]
        congr 1
        simp only [List.map_cons, List.map_nil, List.cons.injEq, and_true]
        simp only [Bool.and_eq_true, Bool.or_eq_true, beq_iff_eq] at hg
        rcases hg.2 with e | e
        · rw [e, show ((Bags.str "int" == Bags.str "text") : Bool) = false by decide]; rfl
        · rw [e, show ((Bags.str "text" == Bags.str "text") : Bool) = true by decide]; rfl
      · rw [hc, Option.map_map]; congr 1; funext x; simp
/-- At the end. -/
theorem HSeen.stop {l : List Bags.Str} {i : Nat} {ok : Bool} {names types : List Bags.Str} (h : HSeen l i ok names types) (hl : ¬ (l.length < 4 ∨ l.length % 2 = 1 ∨ 14 < l.length)) (hi : ¬ i < l.length) :
    if ok = true then ∃ kinds : List Bool, types = kinds.map (fun t => if t then Bags.str "text" else Bags.str "int") ∧ Bags.headOf l = some (l.getD 1 [], kinds) else Bags.headOf l = none := by
  obtain ⟨h1, h2, h3⟩ := h
  have hh : Bags.headOf l = if Bags.nameP (l.getD 1 []) = true then (Bags.colsOf [] (l.drop 2)).map fun c => (l.getD 1 [], c) else none := by
    unfold Bags.headOf
    rw [if_neg hl]
    match l, hl with
    | [], hl => exact absurd (by simp) hl
    | [_], hl => exact absurd (by simp) hl
    | _ :: n :: r, _ => rfl
  cases ok with
  | false =>
    simp only [Bool.false_eq_true, if_false] at h3 ⊢
    rw [hh]
    rcases h3 with h3 | h3
    · rw [if_neg (by rw [h3]; simp)]
    · rw [h3]; split <;> rfl
  | true =>
    rw [if_pos rfl] at h3 ⊢
    obtain ⟨hn, kinds, ht, hc⟩ := h3
    refine ⟨kinds, ht, ?_⟩
    rw [hh, if_pos hn, hc, List.drop_of_length_le (by omega)]
    simp [Bags.colsOf]
end Go.Proofs.YtoephflcjllaaaaGreatDoor
