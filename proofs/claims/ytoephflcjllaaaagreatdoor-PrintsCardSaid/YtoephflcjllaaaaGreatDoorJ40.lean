/- Walks of the reference: Cut, Deep, Read. -/
import Derived.Test.YtoephflcjllaaaaGreatDoorJ39
import Derived.Laws.OwnMore
import Derived.Test.YtoephflcjllaaaaGreatDoorJ01
namespace Go.Proofs.YtoephflcjllaaaaGreatDoor
open Go.RowKit

/-- What Cut answers. -/
def CutRes (ws : List Bags.W) (w : World) (e : Ending) (w' : World) : Prop :=
  Below w.heap.size w w' ∧ ((e = .returned (.pointer none) ∧ ∀ t, ¬ Bags.G .query ws t) ∨ ∃ b t, e = .returned (.pointer (some ⟨b, 0, none⟩)) ∧ tr w' w.heap.size t [b] ∧ Bags.G .query ws t)
theorem seg_all (ws : List Bags.W) : Bags.seg ws 0 ws.length = ws := by unfold Bags.seg; simp
theorem kidsV.base {w : World} {B B' : Nat} {v : Value} {ks : List Nat} (h : kidsV w B v ks) (hB : B' ≤ B) : kidsV w B' v ks := own_base h hB
theorem NodeT.base {w : World} {B B' : Nat} {kd sg txt of_ as_ : Bags.Str} {nm : Int} {st nt al : Bool} {ks l : List Nat} (h : NodeT w B kd sg txt of_ as_ nm st nt al ks l) (hB : B' ≤ B) : NodeT w B' kd sg txt of_ as_ nm st nt al ks l := by
  obtain ⟨b, v, h1, h2, h3, h4⟩ := h
  exact ⟨b, v, h1, Nat.le_trans hB h2, h3.base hB, h4⟩
theorem tr.base {w : World} {B B' : Nat} (hB : B' ≤ B) : ∀ {t : Bags.T} {l : List Nat}, tr w B t l → tr w B' t l := by
  intro t
  induction t with
  | none => intro l h; exact h
  | src a b => intro l h; exact NodeT.base h hB
  | num | text | null | col => intro l h; exact NodeT.base h hB
  | neg a ih | not a ih | exist a ih | isnull a n ih | item a s ih => intro l h; obtain ⟨x, h1, h2⟩ := h; exact ⟨x, ih h1, h2.base hB⟩
  | bin s a b iha ihb | junct s a b iha ihb | isin a n b iha ihb | cmp s a b iha ihb | quant s how a b iha ihb | comb s all a b iha ihb =>
    intro l h; obtain ⟨x, y, h1, h2, h3⟩ := h; exact ⟨x, y, iha h1, ihb h2, h3.base hB⟩
  | agg fn a ih =>
    intro l h
    rcases h with ⟨h1, h2⟩ | ⟨x, h1, h2⟩
    · exact .inl ⟨h1, h2.base hB⟩
    · exact .inr ⟨x, ih h1, h2.base hB⟩
  | cons a b iha ihb => intro l h; obtain ⟨l1, l2, h1, h2, h3⟩ := h; exact ⟨l1, l2, h1, iha h2, ihb h3⟩
  | sel d it f wh g h' ih1 ih2 ih3 ih4 ih5 =>
    intro l h
    obtain ⟨b, vi, pi, vf, pf, xw, vg, pg, xh, h1, h2, h3, h4, h5, h6, h7, h8, h9, h10, h11, h12⟩ := h
    exact ⟨b, vi, pi, vf, pf, xw, vg, pg, xh, h1, Nat.le_trans hB h2, ih1 h3, h4.base hB, ih2 h5, h6.base hB, h7.imp id (fun ⟨p, e, h⟩ => ⟨p, e, ih3 h⟩), ih4 h8, h9.base hB, h10.imp id (fun ⟨p, e, h⟩ => ⟨p, e, ih5 h⟩), h11, h12⟩
theorem zero_tree : (Tryz.prog.info? 30).map (fun i => (i.zero, i.bytes)) = some (some (.pointer none), 8) := by kernel_rfl
set_option maxRecDepth 100000 in
theorem make_memo (n : Nat) (hn : n ≤ 16777216) (w : World) : (Instr.makeSlice 62 (.int .i64 n) (.int .i64 n)).run Tryz.prog w = .ok (.slice (some ⟨w.heap.size, 0, none⟩) n n) (w.alloc (.cells (madeCells #[.pointer none] n) 30)) := by
  have h := zero_tree
  cases hi : Tryz.prog.info? 30 with
  | none => rw [hi] at h; cases h
  | some i =>
    rw [hi] at h
    simp only [Option.map_some, Option.some.injEq, Prod.mk.injEq] at h
    have hs : i.size = 1 := by
      obtain ⟨j, z, h1, h2, h3, _, _⟩ := elem_trees.parts
      rw [hi] at h1
      injection h1 with h1
      subst h1
      exact h3
    have := run_make (P := Tryz.prog) w 62 30 i (.pointer none) Tryz.underlying62 hi h.1 .i64 .i64 n n (by omega) (Int.le_refl _) (by rw [h.2]; omega) (by omega)
    rw [hs] at this
    simpa [Value.cells] using this
theorem memo_cell {n i : Nat} (h : i < n) : (madeCells #[Value.pointer none] n)[i]? = some (.pointer none) := by
  have h1 := toList_madeCells_one (.pointer none) n
  rw [← Array.getElem?_toList, h1, List.getElem?_replicate, if_pos h]

set_option maxRecDepth 100000 in
set_option maxHeartbeats 4000000 in
theorem is_zero {C : Nat} (w : World) :
    Calls Tryz.prog 42 #[.pointer (some ⟨C, 0, none⟩), .int .i64 0, .int .i64 0, .int .i64 0] w fun e w' => e = .returned (.pointer none) ∧ w = w' := by
  go_enter Tryz.func42, Tryz.ntmps42
  go_wp2_with fail
  go_ret
  exact ⟨rfl, rfl⟩

set_option maxRecDepth 100000 in
set_option maxHeartbeats 8000000 in
theorem cut_ref (ws : List Bags.W) (v : Value) (w : World) (B0 : Nat) (hr : w.ownsRow B0 98 3 v ws.length (ws.flatMap wordR)) (hlen : ws.length ≤ 400) : Calls Tryz.prog 20 #[v] w (CutRes ws w) := by
  by_cases h0 : ws.length = 0
  · obtain rfl : ws = [] := List.eq_nil_of_length_eq_zero h0
    obtain ⟨bW, pW, rfl, _, _, _⟩ := own_rows hr
    have hmk : ∀ W, (Instr.makeSlice 62 (.int .i64 18) (.int .i64 18)).run Tryz.prog W = .ok (.slice (some ⟨W.heap.size, 0, none⟩) 18 18) (W.alloc (.cells (madeCells #[.pointer none] 18) 30)) := fun W => make_memo 18 (by omega) W
    have HN := Lib.hid (show ∀ t, ¬ Bags.G .query [] t from fun t h => h.ne rfl)
    clear hr
    go_enter Tryz.func20, Tryz.ntmps20
    go_wp2_with fail
    refine (is_zero _).mono ?_
    rintro e w1 ⟨rfl, rfl⟩
    go_wp2_with fail
    go_ret
    exact ⟨(((Below.refl _ _).alloc (Nat.le_refl _) _).alloc (by simp) _).alloc (by simp; omega) _, .inl ⟨rfl, HN.out⟩⟩
  · have hr' := hr
    obtain ⟨hl1, ⟨hl2, hl3⟩ | ⟨g, pW, cur, rfl, hBg, hgc, hn1, hn2, hsz, htk⟩⟩ := hr
    · omega
    · have hsq := sq_le hlen
      have hwz : wrap64 (18 * ((ws.length : Int) + 1) * ((ws.length : Int) + 1)) = ((18 * (ws.length + 1) * (ws.length + 1) : Nat) : Int) := by
        rw [show 18 * ((ws.length : Int) + 1) * ((ws.length : Int) + 1) = ((18 * (ws.length + 1) * (ws.length + 1) : Nat) : Int) by push_cast; rfl, w64 (by omega)]
      have hmk : ∀ W, (Instr.makeSlice 62 (.int .i64 (wrap64 (18 * ((ws.length : Int) + 1) * ((ws.length : Int) + 1)))) (.int .i64 (wrap64 (18 * ((ws.length : Int) + 1) * ((ws.length : Int) + 1))))).run Tryz.prog W = .ok (.slice (some ⟨W.heap.size, 0, none⟩) (18 * (ws.length + 1) * (ws.length + 1)) (18 * (ws.length + 1) * (ws.length + 1))) (W.alloc (.cells (madeCells #[.pointer none] (18 * (ws.length + 1) * (ws.length + 1))) 30)) := fun W => by
        rw [hwz]
        exact make_memo _ (by omega) W
      clear hwz
      have HGC := Lib.hid (And.intro hgc (And.intro htk (And.intro hn1 hn2)))
      have hglt := lt_of_some hgc
      have hMC : ∀ i, i < 18 * (ws.length + 1) * (ws.length + 1) → (madeCells #[Value.pointer none] (18 * (ws.length + 1) * (ws.length + 1)))[i]? = some (.pointer none) := fun i h => memo_cell h
      have hMS := size_madeCells #[Value.pointer none] (18 * (ws.length + 1) * (ws.length + 1))
      generalize madeCells #[Value.pointer none] (18 * (ws.length + 1) * (ws.length + 1)) = MS at *
      have HMS := Lib.hid (And.intro hMC hMS)
      unfold maxLen at hn2
      clear hr' hgc htk hsz hl1 hMC hMS
      go_enter Tryz.func20, Tryz.ntmps20
      go_wp2_with fail
      have hcs : CS ⟨w.heap.size + 2, g, w.heap.size + 1, w.heap.size, w.heap.size + 3, pW, ws⟩ (((w.alloc (.cells (treeC [] [] [] [] [] 0 false false false false (.slice none 0 0) (.slice none 0 0) (.slice none 0 0) (.slice none 0 0) (.pointer none) (.pointer none)) 64)).alloc (.cells MS 30)).alloc (.cells #[.slice (some ⟨g, 0, none⟩) ws.length pW, .int .i64 ws.length, .slice (some ⟨w.heap.size + 1, 0, none⟩) (18 * (ws.length + 1) * (ws.length + 1)) (18 * (ws.length + 1) * (ws.length + 1)), .pointer (some ⟨w.heap.size, 0, none⟩)] 103)) := by
        have hB := (((Below.refl w.heap.size w).alloc (Nat.le_refl _) (.cells (treeC [] [] [] [] [] 0 false false false false (.slice none 0 0) (.slice none 0 0) (.slice none 0 0) (.slice none 0 0) (.pointer none) (.pointer none)) 64)).alloc (by simp) (.cells MS 30)).alloc (by simp; omega) (.cells #[.slice (some ⟨g, 0, none⟩) ws.length pW, .int .i64 ws.length, .slice (some ⟨w.heap.size + 1, 0, none⟩) (18 * (ws.length + 1) * (ws.length + 1)) (18 * (ws.length + 1) * (ws.length + 1)), .pointer (some ⟨w.heap.size, 0, none⟩)] 103)
        refine ⟨Blk.made' (by simp) _ _, ⟨cur, (hB.block g hglt).trans HGC.out.1, HGC.out.2.1⟩, ⟨HGC.out.2.2.1, HGC.out.2.2.2⟩, ⟨MS, (Blk.made' (by simp) _ _).alloc _, HMS.out.2, fun k i j hk hi hj => ⟨_, HMS.out.1 _ (at_lt (c := ⟨w.heap.size + 2, g, w.heap.size + 1, w.heap.size, w.heap.size + 3, pW, ws⟩) hk hi hj), .inl rfl⟩⟩,
          ⟨by simp, by show g < w.heap.size + 3; omega, by simp, by simp⟩, ⟨by simp, by show g ≠ w.heap.size + 1; omega, by simp⟩, ⟨_, _, ((Blk.made _ _ _).alloc _).alloc _⟩, by simp, ⟨by show 0 < ws.length; omega, hlen⟩⟩
      have hIS : Calls Tryz.prog 42 #[.pointer (some ⟨w.heap.size + 2, 0, none⟩), .int .i64 0, .int .i64 0, .int .i64 ws.length] _ _ :=
        is_ok ⟨w.heap.size + 2, g, w.heap.size + 1, w.heap.size, w.heap.size + 3, pW, ws⟩ (rank 0 0 ws.length + 1) 0 0 ws.length _ (by decide) (by omega) (by omega) (by omega) hcs
      refine hIS.mono ?_
      rintro e w1 ⟨hc1, hf1, h1⟩
      have HB1 := Lib.hid ((((((Below.refl w.heap.size w).alloc (Nat.le_refl _) (.cells (treeC [] [] [] [] [] 0 false false false false (.slice none 0 0) (.slice none 0 0) (.slice none 0 0) (.slice none 0 0) (.pointer none) (.pointer none)) 64)).alloc (by simp) (.cells MS 30)).alloc (by simp; omega) (.cells #[.slice (some ⟨g, 0, none⟩) ws.length pW, .int .i64 ws.length, .slice (some ⟨w.heap.size + 1, 0, none⟩) (18 * (ws.length + 1) * (ws.length + 1)) (18 * (ws.length + 1) * (ws.length + 1)), .pointer (some ⟨w.heap.size, 0, none⟩)] 103))).trans (hf1.below (B := w.heap.size) (by simp; omega) (fun k hk => by rw [hk]; show w.heap.size ≤ w.heap.size + 1; omega)))
      rcases h1 with ⟨rfl, hno⟩ | ⟨b, t, rfl, hb, ht, hd⟩
      · have HX := Lib.hid hno
        clear hc1 hf1 hno hIS hcs
        go_wp2_with fail
        go_ret
        exact ⟨HB1.out, .inl ⟨rfl, fun t ht => HX.out ⟨t, Nat.le_refl _, by show Bags.G .query (Bags.seg ws 0 ws.length) t; rw [seg_all]; exact ht⟩⟩⟩
      · have HX := Lib.hid (And.intro ht hd)
        clear hc1 hf1 ht hd hIS hcs
        go_wp2_with fail
        go_ret
        exact ⟨HB1.out, .inr ⟨b, t, rfl, tr.base (by show w.heap.size ≤ w.heap.size + 3; omega) HX.out.1, by have := HX.out.2.2; rwa [show Bags.seg ws 0 ws.length = ws from seg_all ws] at this⟩⟩
end Go.Proofs.YtoephflcjllaaaaGreatDoor
/- Walks of the reference: Deep, Read. -/
namespace Go.Proofs.YtoephflcjllaaaaGreatDoor
open Go.RowKit

theorem is_cells' (x : Bags.W) (n : Nat) (s : Bags.Str) : x.is n [s] = ((x.sort == n) && ((tx x.text).toList == s)) := by
  rw [bs_toList, bs_tx, Bags.W.is, List.contains_cons, List.contains_nil, Bool.or_false]
theorem deep_step (ws : List Bags.W) (k : Nat) (hk : k < ws.length) (m : Int) : Bags.deepFrom m (ws.drop k) =
    (decide (16 < (if (Bags.wd ws k).is 5 [Bags.str "("] then m + 1 else if (Bags.wd ws k).is 5 [Bags.str ")"] then m - 1 else m)) || Bags.deepFrom (if (Bags.wd ws k).is 5 [Bags.str "("] then m + 1 else if (Bags.wd ws k).is 5 [Bags.str ")"] then m - 1 else m) (ws.drop (k + 1))) := by
  rw [List.drop_eq_getElem_cons hk, Bags.wd_get hk]
  rfl
theorem row_word {w : World} {ws : List Bags.W} {v : Value} {B0 : Nat} (hr : w.ownsRow B0 98 3 v ws.length (ws.flatMap wordR)) (hpos : 0 < ws.length) : ∃ g cap, v = .slice (some ⟨g, 0, none⟩) ws.length cap ∧ ws.length ≤ cap ∧ cap ≤ maxLen ∧ ∀ k, k < ws.length → w.cell? ⟨g, k * 3, none⟩ = some (.string (sortB (Bags.wd ws k).sort)) ∧ w.cell? ⟨g, k * 3 + 1, none⟩ = some (.string (tx (Bags.wd ws k).text)) := by
  obtain ⟨bW, pW, rfl, hcap1, hcap2, hWc⟩ := own_rows hr
  obtain ⟨g, rfl, _, _, _, hc, _⟩ := hWc hpos
  refine ⟨g, pW, rfl, hcap1, hcap2, fun k hk => ⟨?_, ?_⟩⟩
  · have := hc (k * 3) (by omega)
    rw [this, show k * 3 = k * 3 + 0 from rfl, wr_get ws k hk 0 (by omega)]; rfl
  · have := hc (k * 3 + 1) (by omega)
    rw [this, wr_get ws k hk 1 (by omega)]; rfl

set_option maxRecDepth 100000 in
set_option maxHeartbeats 8000000 in
theorem deep_ref (ws : List Bags.W) (v : Value) (w : World) (B0 : Nat) (hr : w.ownsRow B0 98 3 v ws.length (ws.flatMap wordR)) (hlen : ws.length ≤ 400) :
    Calls Tryz.prog 21 #[v] w fun e w' => e = .returned (.bool (Bags.deepFrom 0 ws)) ∧ w = w' := by
  obtain ⟨bW, pW, rfl, hcap1, hcap2, _⟩ := own_rows hr
  unfold maxLen at hcap2
  have HR := Lib.hid hr
  generalize hD : Bags.deepFrom 0 ws = D
  have HD := Lib.hid hD
  clear hr hD
  go_enter Tryz.func21, Tryz.ntmps21
  go_wp2_with fail
  go_loop [3, 4] (fun nv iv => ∃ (k : Nat) (m : Int), nv = .int .i64 m ∧ iv = .int .i64 k ∧ k ≤ ws.length ∧ D = Bags.deepFrom m (ws.drop k) ∧ -(k : Int) ≤ m ∧ m ≤ 16) (fun _ iv => ws.length - (intOf iv).toNat)
  case atStart => exact ⟨0, 0, rfl, rfl, by omega, HD.out.symm, by omega, by omega⟩
  case round =>
    obtain ⟨k, m, rfl, rfl, hk, hd, hm1, hm2⟩ := hrel
    have HDD := Lib.hid hd
    clear hd
    by_cases hlt : k < ws.length
    · have hlt' : (k : Int) < (ws.length : Int) := by omega
      obtain ⟨g, cap, hse, _, _, hc⟩ := row_word HR.out (by omega)
      injection hse with hb1 _ hb2
      subst hb1 hb2
      obtain ⟨c0, c1⟩ := hc k hlt
      have hst := deep_step ws k hlt m
      have e1 := is_cells' (Bags.wd ws k) 5 (Bags.str "(")
      have e2 := is_cells' (Bags.wd ws k) 5 (Bags.str ")")
      have e0 := sort_sign (Bags.wd ws k).sort
      have s1 : Bags.str "(" = [40] := by decide
      have s2 : Bags.str ")" = [41] := by decide
      rw [s1] at e1 hst
      rw [s2] at e2 hst
      have hex : ((tx (Bags.wd ws k).text).toList == [40]) = true → ((tx (Bags.wd ws k).text).toList == [41]) = false := fun h => by
        rw [beq_iff_eq.1 h]; decide
      generalize ((Bags.wd ws k).sort == 5) = S at *
      generalize ht1 : ((tx (Bags.wd ws k).text).toList == [40]) = T1 at *
      generalize ht2 : ((tx (Bags.wd ws k).text).toList == [41]) = T2 at *
      rw [e1, e2] at hst
      have HST := Lib.hid (HDD.out.trans hst)
      clear hst e1 e2 hc s1 s2
      cases S
      · have HX := Lib.hid (show D = (decide (16 < m) || Bags.deepFrom m (ws.drop (k + 1))) by simpa using HST.out)
        clear ht1 ht2 hex
        have hm16 : ¬ (16 : Int) < m := by omega
        go_wp2_with fail
        exact ⟨⟨k + 1, m, rfl, by simp, by omega, by rw [HX.out, decide_eq_false (by omega)]; simp, by omega, by omega⟩, by simp [intOf]; omega⟩
      · cases T1
        · cases T2
          · have HX := Lib.hid (show D = (decide (16 < m) || Bags.deepFrom m (ws.drop (k + 1))) by simpa using HST.out)
            clear hex
            have hm16 : ¬ (16 : Int) < m := by omega
            go_wp2_with fail
            exact ⟨⟨k + 1, m, rfl, by simp, by omega, by rw [HX.out, decide_eq_false (by omega)]; simp, by omega, by omega⟩, by simp [intOf]; omega⟩
          · have HX := Lib.hid (show D = (decide (16 < m - 1) || Bags.deepFrom (m - 1) (ws.drop (k + 1))) by simpa using HST.out)
            clear hex
            have hm16 : ¬ (16 : Int) < m - 1 := by omega
            go_wp2_with fail
            exact ⟨⟨k + 1, m - 1, rfl, by simp, by omega, by rw [HX.out, decide_eq_false (by omega)]; simp, by omega, by omega⟩, by simp [intOf]; omega⟩
        · have hT2 := hex rfl
          subst hT2
          have HX := Lib.hid (show D = (decide (16 < m + 1) || Bags.deepFrom (m + 1) (ws.drop (k + 1))) by simpa using HST.out)
          clear hex
          by_cases hm16 : (16 : Int) < m + 1
          · go_wp2_with fail
            go_ret
            exact ⟨by rw [HX.out, decide_eq_true hm16]; simp, rfl⟩
          · go_wp2_with fail
            exact ⟨⟨k + 1, m + 1, rfl, by simp, by omega, by rw [HX.out, decide_eq_false hm16]; simp, by omega, by omega⟩, by simp [intOf]; omega⟩
    · have hlt' : ¬ (k : Int) < (ws.length : Int) := by omega
      have HX := Lib.hid (show D = false by rw [HDD.out, List.drop_of_length_le (by omega)]; rfl)
      go_wp2_with fail
      go_ret
      exact ⟨by rw [HX.out]; rfl, rfl⟩

/-- What Read answers. -/
def ReadRes (s : ByteArray) (w : World) (e : Ending) (w' : World) : Prop :=
  Below w.heap.size w w' ∧ ((∃ k p : Nat, k ≠ 0 ∧ Bags.Reading (bs s) (.inl (k, p)) ∧ e = .returned (.tuple #[.pointer none, .int .i64 k, .int .i64 p])) ∨
    ∃ b t, Bags.Reading (bs s) (.inr t) ∧ e = .returned (.tuple #[.pointer (some ⟨b, 0, none⟩), .int .i64 0, .int .i64 0]) ∧ tr w' w.heap.size t [b])

set_option maxRecDepth 100000 in
set_option maxHeartbeats 8000000 in
theorem read_ref (s : ByteArray) (w : World) (hs : s.size ≤ 140737488351232) : Calls Tryz.prog 9 #[.string s] w (ReadRes s w) := by
  have HW := Lib.hid (words_ref s w hs)
  go_enter Tryz.func9, Tryz.ntmps9
  go_wp2_with fail
  refine HW.out.mono ?_
  rintro e w1 ⟨hb1, ⟨p, hp, rfl⟩ | ⟨ws, v, hws, rfl, hown⟩⟩
  · have HB := Lib.hid hb1
    have HX := Lib.hid (show Bags.Reading (bs s) (.inl (2, p)) by unfold Bags.Reading; rw [hp])
    have hp0 : (0 : Int) ≤ (p : Int) := by omega
    clear hb1 hp
    go_wp2_with fail
    go_ret3
    exact ⟨HB.out, .inl ⟨2, p, by decide, HX.out, rfl⟩⟩
  · have HB := Lib.hid hb1
    have hwl : ws.length ≤ 400 := (Bags.words_bound hws).1
    have HCUT := Lib.hid (cut_ref ws v w1 _ hown hwl)
    have HOWN := Lib.hid hown
    have HWS := Lib.hid hws
    have hsz := hb1.size
    obtain ⟨bO, pO, rfl, _, _, _⟩ := own_rows hown
    clear hb1 hown hws
    go_wp2_with fail
    refine HCUT.out.mono ?_
    rintro e w2 ⟨hb2, ⟨rfl, hno⟩ | ⟨b, t, rfl, ht, hg⟩⟩
    · have HB2 := Lib.hid (HB.out.trans (hb2.mono hsz))
      have HX := Lib.hid (show Bags.Reading (bs s) (.inl (3, 0)) by unfold Bags.Reading; rw [HWS.out]; exact .inr ⟨hno, rfl⟩)
      clear hb2 hno
      go_wp2_with fail
      go_ret3
      exact ⟨HB2.out, .inl ⟨3, 0, by decide, HX.out, rfl⟩⟩
    · have HB2 := Lib.hid (HB.out.trans (hb2.mono hsz))
      have HDE := Lib.hid (deep_ref ws _ w2 _ (own_later HOWN.out hb2) hwl)
      have HX := Lib.hid (show Bags.Reading (bs s) (if Bags.deepFrom 0 ws then .inl (4, 0) else .inr t) by unfold Bags.Reading; rw [HWS.out]; exact .inl ⟨t, hg, rfl⟩)
      have HT := Lib.hid ht
      generalize Bags.deepFrom 0 ws = D at *
      clear hb2 hg ht
      go_wp2_with fail
      refine HDE.out.mono ?_
      rintro e w3 ⟨rfl, rfl⟩
      cases D
      · go_wp2_with fail
        go_ret3
        exact ⟨HB2.out, .inr ⟨b, t, by simpa using HX.out, rfl, tr.base hsz HT.out⟩⟩
      · go_wp2_with fail
        go_ret3
        exact ⟨HB2.out, .inl ⟨4, 0, by decide, by simpa using HX.out, rfl⟩⟩
end Go.Proofs.YtoephflcjllaaaaGreatDoor
