/- Walks: factor, the method itself. -/
import Derived.Test.YtoephflcjllaaaaGreatDoorJ16
namespace Go.Proofs.YtoephflcjllaaaaGreatDoor
open Go.RowKit
set_option linter.unusedVariables false
set_option linter.unusedSimpArgs false

section
variable (hC : ContSaid) {r A : Nat} {ws : List Bags.W} {i s : Nat} {W : World}
include hC
theorem takes_sort (hr : Rdr W r A ws i) (hi : i ≤ ws.length) (hz : ws.length ≤ 140737488351232) (h : (Bags.hd (ws.drop i)).sort = s) :
    Calls Tryz.prog 83 #[.pointer (some ⟨r, 0, none⟩), .int .i64 s, .slice none 0 0] W fun e w' => e = .returned (.bool true) ∧ Rdr w' r A ws (i + 1) ∧ Fr (· = r) W w' := by
  have ht : isT (Bags.hd (ws.drop i)) s [] = true := by rw [isT_nil]; simpa using h
  have h1 := takes_t hC s hr hi (v := .slice none 0 0) (l := []) (.inl ⟨rfl, rfl⟩) hz
  rw [ht] at h1
  exact h1
theorem takes_sort_no (hr : Rdr W r A ws i) (hi : i ≤ ws.length) (hz : ws.length ≤ 140737488351232) (h : (Bags.hd (ws.drop i)).sort ≠ s) :
    Calls Tryz.prog 83 #[.pointer (some ⟨r, 0, none⟩), .int .i64 s, .slice none 0 0] W fun e w' => e = .returned (.bool false) ∧ Rdr w' r A ws i ∧ Fr (· = r) W w' := by
  have ht : isT (Bags.hd (ws.drop i)) s [] = false := by rw [isT_nil]; simpa using h
  have h1 := takes_t hC s hr hi (v := .slice none 0 0) (l := []) (.inl ⟨rfl, rfl⟩) hz
  rw [ht] at h1
  exact h1
end
/-- What factor holds: the reader's pointer, the answer's place, the word. -/
structure Three (w : World) (p1 p2 pw r : Nat) (x : Bags.W) : Prop where
  one : Blk w p1 140 #[.pointer (some ⟨r, 0, none⟩)]
  two : Blk w p2 201 #[.nilIface]
  word : wordBlk w pw x
theorem Three.far {w w' : World} {p1 p2 pw r : Nat} {x : Bags.W} (h : Three w p1 p2 pw r x) (hf : Fr (· = r) w w') (h1 : p1 ≠ r) (h2 : p2 ≠ r) (h3 : pw ≠ r) : Three w' p1 p2 pw r x :=
  ⟨h.one.fr hf h1, h.two.fr hf h2, h.word.fr hf h3⟩

set_option maxRecDepth 100000 in
set_option maxHeartbeats 8000000 in
theorem factor_any (hC : ContSaid) {r A : Nat} {ws : List Bags.W} (hz : ws.length ≤ 1000) {N : Nat} (hM : Meth 142 V1 .factor N r A ws) (hE : Meth 126 V1 .expr N r A ws) (hCo : Meth 108 VC .col N r A ws) :
    Meth 142 V1 .factor (N + 1) r A ws := by
  intro n hn W i y hok hr hi hy
  cases n with
  | zero => simp [Bags.par] at hy
  | succ n =>
  have hmf := hmf
  have hwt := word_text
  have HM := Lib.hid hM
  have HE := Lib.hid hE
  have HCo := Lib.hid hCo
  rw [Bags.par] at hy
  simp only [List.tail_drop] at hy
  have hlt := hr.lt
  have hltA := hr.ltA
  have hf0 : Fr (· = r) W ((W.alloc (.cells #[.pointer (some ⟨r, 0, none⟩)] 140)).alloc (.cells #[.nilIface] 201)) := ((Fr.refl _ _).alloc _).alloc _
  have hr2 := (hr.alloc (.cells #[.pointer (some ⟨r, 0, none⟩)] 140)).alloc (.cells #[.nilIface] 201)
  obtain ⟨cp, hb, hl, hc⟩ := hr2.cells
  have c0 := hb.cell 0
  have c1 := hb.cell 1
  obtain ⟨d0, d1, d2⟩ := hc i hi
  have hbx : Blk ((W.alloc (.cells #[.pointer (some ⟨r, 0, none⟩)] 140)).alloc (.cells #[.nilIface] 201)) W.heap.size _ _ := (Blk.made W 140 #[.pointer (some ⟨r, 0, none⟩)]).alloc _
  have hce : Blk ((W.alloc (.cells #[.pointer (some ⟨r, 0, none⟩)] 140)).alloc (.cells #[.nilIface] 201)) (W.heap.size + 1) _ _ := Blk.made' (by simp) 201 #[.nilIface]
  have x0 : (((W.alloc (.cells #[.pointer (some ⟨r, 0, none⟩)] 140)).alloc (.cells #[.nilIface] 201))).cell? ⟨W.heap.size, 0, none⟩ = some (.pointer (some ⟨r, 0, none⟩)) := hbx.cell 0
  have hi' : (i : Int) < (ws.length : Int) + 1 := by omega
  unfold maxLen at hl
  simp at c0 c1
  generalize hW2 : ((W.alloc (.cells #[.pointer (some ⟨r, 0, none⟩)] 140)).alloc (.cells #[.nilIface] 201)) = WW at *
  have k0 := fun o => cell_alloc c0 o
  have k1 := fun o => cell_alloc c1 o
  have e0 := fun o => cell_alloc d0 o
  have e1 := fun o => cell_alloc d1 o
  have e2 := fun o => cell_alloc d2 o
  have y0 := fun o => cell_alloc x0 o
  clear hM hE hCo hc hb
  subst hW2
  obtain ⟨cp', hb', hl', hc'⟩ := hr.cells
  have c0' := hb'.cell 0
  have c1' := hb'.cell 1
  simp at c0' c1'
  obtain ⟨d0', d1', d2'⟩ := hc' i hi
  clear hr hb' hc' hl'
  go_enter Tryz.func142, Tryz.ntmps142
  go_wp2_with fail
  go_region
  have HRw := Lib.hid (show Rdr (((W.alloc (.cells #[.pointer (some ⟨r, 0, none⟩)] 140)).alloc (.cells #[.nilIface] 201)).alloc (.cells #[.int .i64 (Bags.hd (ws.drop i)).sort, .string (tx (Bags.hd (ws.drop i)).text), .int .i64 (Bags.hd (ws.drop i)).num] 149)).drew r A ws i from hr2.alloc _)
  have HGw := Lib.hid (show Fr (· = r) ((W.alloc (.cells #[.pointer (some ⟨r, 0, none⟩)] 140)).alloc (.cells #[.nilIface] 201)) (((W.alloc (.cells #[.pointer (some ⟨r, 0, none⟩)] 140)).alloc (.cells #[.nilIface] 201)).alloc (.cells #[.int .i64 (Bags.hd (ws.drop i)).sort, .string (tx (Bags.hd (ws.drop i)).text), .int .i64 (Bags.hd (ws.drop i)).num] 149)).drew from ((Fr.refl _ _).alloc _).drew)
  have HSw := Lib.hid (show Three (((W.alloc (.cells #[.pointer (some ⟨r, 0, none⟩)] 140)).alloc (.cells #[.nilIface] 201)).alloc (.cells #[.int .i64 (Bags.hd (ws.drop i)).sort, .string (tx (Bags.hd (ws.drop i)).text), .int .i64 (Bags.hd (ws.drop i)).num] 149)).drew W.heap.size (W.heap.size + 1) (W.heap.size + 1 + 1) r (Bags.hd (ws.drop i)) from ⟨hbx.alloc _, hce.alloc _, Blk.made' (by simp) _ _⟩)
  clear c0 c1 d0 d1 d2 x0 k0 k1 e0 e1 e2 y0 c0' c1' d0' d1' d2' hbx hce hr2
  cases tm : (Bags.hd (ws.drop i)).is 5 [Bags.str "-"]
  · rw [if_neg (by simp [tm])] at hy
    have Tm := Lib.hid (show isT (Bags.hd (ws.drop i)) 5 [Bags.str "-"] = false from tm)
    clear tm
    go_wp2_with fail
    refine (takes_no hC (W := (((W.alloc (.cells #[.pointer (some ⟨r, 0, none⟩)] 140)).alloc (.cells #[.nilIface] 201)).alloc (.cells #[.int .i64 (Bags.hd (ws.drop i)).sort, .string (tx (Bags.hd (ws.drop i)).text), .int .i64 (Bags.hd (ws.drop i)).num] 149)).drew) HRw.out (by omega) (by omega) Tm.out (by decide) (by decide) rfl (by first | rfl | simp) rfl).mono ?_
    rintro e w2 ⟨rfl, hR, hG⟩
    have HR2 := Lib.hid hR
    have HG2 := Lib.hid (HGw.out.t hG)
    have hS := HSw.out.far hG (by omega) (by omega) (by omega)
    have c2 := hS.one.cell 0
    simp at c2
    have HS2 := Lib.hid hS
    clear hR hG hS
    by_cases t3 : (Bags.hd (ws.drop i)).sort = 3
    · rw [if_pos t3] at hy
      have T3 := Lib.hid t3
      have := lt_of_sort t3 (by decide)
      clear t3
      go_wp2_with fail
      refine (takes_sort hC HR2.out (by omega) (by omega) T3.out).mono ?_
      rintro e w3 ⟨rfl, hR, hG⟩
      have HR3 := Lib.hid hR
      have HG3 := Lib.hid (HG2.out.t hG)
      have hS := HS2.out.far hG (by omega) (by omega) (by omega)
      have c3 := hS.one.cell 0
      simp at c3
      have HS3 := Lib.hid hS
      clear hR hG hS
      have HY := Lib.hid hy
      have hvv := HS3.out.two
      have db := fun o => (hvv.alloc o).cell 0
      have gb := fun o => (hvv.alloc o).free 0
      simp at db
      have wc := HS3.out.word.cell 2
      simp at wc
      have hlv := hvv.lt
      have HVV := Lib.hid hvv
      clear hy hvv
      go_wp2_with fail
      obtain ⟨rfl⟩ : some ((.num (Bags.hd (ws.drop i)).num), ws.drop (i + 1)) = y := by simpa [Bags.ok] using HY.out
      have hput := (HVV.out.put 0 (.iface 259 (.pointer (some ⟨w3.heap.size, 0, none⟩)))).alloc (.cells #[.iface 159 (.int .i64 (Bags.hd (ws.drop i)).num)] 261)
      have hfa := (Fr.refl (fun _ => False) (w3.setCell ⟨(W.heap.size + 1), 0, none⟩ (.iface 259 (.pointer (some ⟨w3.heap.size, 0, none⟩))))).alloc (.cells #[.iface 159 (.int .i64 (Bags.hd (ws.drop i)).num)] 261)
      have hfs : Fr (· = (W.heap.size + 1)) w3 (w3.setCell ⟨(W.heap.size + 1), 0, none⟩ (.iface 259 (.pointer (some ⟨w3.heap.size, 0, none⟩)))) := (Fr.refl (· = (W.heap.size + 1)) _).set (p := ⟨(W.heap.size + 1), 0, none⟩) (.inr rfl) _
      refine bodyPost_ret (results_cell1 rfl _ _ (W.heap.size + 1) 201 _ _ rfl hput rfl rfl) rfl ⟨new_fr hf0 (((HG3.out.mono (fun _ _ h => Or.inl h)).t (hfs.mono (fun _ _ h => Or.inr h))).alloc (.cells #[.iface 159 (.int .i64 (Bags.hd (ws.drop i)).num)] 261) : Fr (SS r (W.heap.size + 1)) _ _) (fun k hk => by omega), _, (i + 1), rfl, ?_, by omega, rfl, (HR3.out.fr hfs (by omega) (by omega)).alloc (.cells #[.iface 159 (.int .i64 (Bags.hd (ws.drop i)).num)] 261)⟩
      exact (show rep ((w3.setCell ⟨(W.heap.size + 1), 0, none⟩ (.iface 259 (.pointer (some ⟨w3.heap.size, 0, none⟩)))).alloc (.cells #[.iface 159 (.int .i64 (Bags.hd (ws.drop i)).num)] 261)) W.heap.size (.num (Bags.hd (ws.drop i)).num) [(.iface 259 (.pointer (some ⟨w3.heap.size, 0, none⟩)))] from ⟨_, (show W.heap.size ≤ w3.heap.size by omega), rfl, Blk.made' (by simp) _ _⟩)
    · rw [if_neg t3] at hy
      have T3 := Lib.hid t3
      clear t3
      go_wp2_with fail
      refine (takes_sort_no hC HR2.out (by omega) (by omega) T3.out).mono ?_
      rintro e w3 ⟨rfl, hR, hG⟩
      have HR3 := Lib.hid hR
      have HG3 := Lib.hid (HG2.out.t hG)
      have hS := HS2.out.far hG (by omega) (by omega) (by omega)
      have c3 := hS.one.cell 0
      simp at c3
      have HS3 := Lib.hid hS
      clear hR hG hS
      by_cases t4 : (Bags.hd (ws.drop i)).sort = 4
      · rw [if_pos t4] at hy
        have T4 := Lib.hid t4
        have := lt_of_sort t4 (by decide)
        clear t4
        go_wp2_with fail
        refine (takes_sort hC HR3.out (by omega) (by omega) T4.out).mono ?_
        rintro e w4 ⟨rfl, hR, hG⟩
        have HR4 := Lib.hid hR
        have HG4 := Lib.hid (HG3.out.t hG)
        have hS := HS3.out.far hG (by omega) (by omega) (by omega)
        have c4 := hS.one.cell 0
        simp at c4
        have HS4 := Lib.hid hS
        clear hR hG hS
        have HY := Lib.hid hy
        have hvv := HS4.out.two
        have db := fun o => (hvv.alloc o).cell 0
        have gb := fun o => (hvv.alloc o).free 0
        simp at db
        have wc := HS4.out.word.cell 1
        simp at wc
        have hlv := hvv.lt
        have HVV := Lib.hid hvv
        clear hy hvv
        go_wp2_with fail
        obtain ⟨rfl⟩ : some ((.text (Bags.hd (ws.drop i)).text), ws.drop (i + 1)) = y := by simpa [Bags.ok] using HY.out
        have hput := (HVV.out.put 0 (.iface 259 (.pointer (some ⟨w4.heap.size, 0, none⟩)))).alloc (.cells #[.iface 156 (.string (tx (Bags.hd (ws.drop i)).text))] 261)
        have hfa := (Fr.refl (fun _ => False) (w4.setCell ⟨(W.heap.size + 1), 0, none⟩ (.iface 259 (.pointer (some ⟨w4.heap.size, 0, none⟩))))).alloc (.cells #[.iface 156 (.string (tx (Bags.hd (ws.drop i)).text))] 261)
        have hfs : Fr (· = (W.heap.size + 1)) w4 (w4.setCell ⟨(W.heap.size + 1), 0, none⟩ (.iface 259 (.pointer (some ⟨w4.heap.size, 0, none⟩)))) := (Fr.refl (· = (W.heap.size + 1)) _).set (p := ⟨(W.heap.size + 1), 0, none⟩) (.inr rfl) _
        refine bodyPost_ret (results_cell1 rfl _ _ (W.heap.size + 1) 201 _ _ rfl hput rfl rfl) rfl ⟨new_fr hf0 (((HG4.out.mono (fun _ _ h => Or.inl h)).t (hfs.mono (fun _ _ h => Or.inr h))).alloc (.cells #[.iface 156 (.string (tx (Bags.hd (ws.drop i)).text))] 261) : Fr (SS r (W.heap.size + 1)) _ _) (fun k hk => by omega), _, (i + 1), rfl, ?_, by omega, rfl, (HR4.out.fr hfs (by omega) (by omega)).alloc (.cells #[.iface 156 (.string (tx (Bags.hd (ws.drop i)).text))] 261)⟩
        exact (show rep ((w4.setCell ⟨(W.heap.size + 1), 0, none⟩ (.iface 259 (.pointer (some ⟨w4.heap.size, 0, none⟩)))).alloc (.cells #[.iface 156 (.string (tx (Bags.hd (ws.drop i)).text))] 261)) W.heap.size (.text (Bags.hd (ws.drop i)).text) [(.iface 259 (.pointer (some ⟨w4.heap.size, 0, none⟩)))] from ⟨_, (show W.heap.size ≤ w4.heap.size by omega), rfl, Blk.made' (by simp) _ _⟩)
      · rw [if_neg t4] at hy
        have T4 := Lib.hid t4
        clear t4
        go_wp2_with fail
        refine (takes_sort_no hC HR3.out (by omega) (by omega) T4.out).mono ?_
        rintro e w4 ⟨rfl, hR, hG⟩
        have HR4 := Lib.hid hR
        have HG4 := Lib.hid (HG3.out.t hG)
        have hS := HS3.out.far hG (by omega) (by omega) (by omega)
        have c4 := hS.one.cell 0
        simp at c4
        have HS4 := Lib.hid hS
        clear hR hG hS
        cases tnl : (Bags.hd (ws.drop i)).is 1 [Bags.str "null"]
        · rw [if_neg (by simp [tnl])] at hy
          have Tnl := Lib.hid (show isT (Bags.hd (ws.drop i)) 1 [Bags.str "null"] = false from tnl)
          clear tnl
          go_wp2_with fail
          refine (takes_no hC HR4.out (by omega) (by omega) Tnl.out (by decide) (by decide) rfl (by first | rfl | simp) rfl).mono ?_
          rintro e w5 ⟨rfl, hR, hG⟩
          have HR5 := Lib.hid hR
          have HG5 := Lib.hid (HG4.out.t hG)
          have hS := HS4.out.far hG (by omega) (by omega) (by omega)
          have c5 := hS.one.cell 0
          simp at c5
          have HS5 := Lib.hid hS
          clear hR hG hS
          cases tf : (Bags.hd (ws.drop i)).is 1 Bags.fns
          · rw [if_neg (by simp [tf])] at hy
            have Tf := Lib.hid (show isT (Bags.hd (ws.drop i)) 1 Bags.fns = false from tf)
            clear tf
            go_wp2_with fail
            refine (takes_no hC HR5.out (by omega) (by omega) Tf.out (by decide) (by decide) rfl (by first | rfl | simp) rfl).mono ?_
            rintro e w6 ⟨rfl, hR, hG⟩
            have HR6 := Lib.hid hR
            have HG6 := Lib.hid (HG5.out.t hG)
            have hS := HS5.out.far hG (by omega) (by omega) (by omega)
            have c6 := hS.one.cell 0
            simp at c6
            have HS6 := Lib.hid hS
            clear hR hG hS
            cases tb : (Bags.hd (ws.drop i)).is 5 [Bags.str "("]
            · rw [if_neg (by simp [tb])] at hy
              have Tb := Lib.hid (show isT (Bags.hd (ws.drop i)) 5 [Bags.str "("] = false from tb)
              clear tb
              go_wp2_with fail
              refine (is_at hC HR6.out (by omega) Tb.out (by decide) (by decide) rfl (by first | rfl | simp) rfl).mono ?_
              rintro e w7 ⟨rfl, hR, hG⟩
              have HR7 := Lib.hid hR
              have HG7 := Lib.hid (HG6.out.t hG)
              have hS := HS6.out.far hG (by omega) (by omega) (by omega)
              have c7 := hS.one.cell 0
              simp at c7
              have HS7 := Lib.hid hS
              clear hR hG hS
              have HY := Lib.hid hy
              clear hy
              rcases y with _ | ⟨t, rest⟩
              · go_wp2_with fail
                refine (HCo.out n (by omega) _ i _ trivial HR7.out (by omega) HY.out).mono ?_
                rintro e w8 ⟨hG, rfl, hR⟩
                have HR8 := Lib.hid hR
                have HG8 := Lib.hid (HG7.out.t hG)
                have hS := HS7.out.far hG (by omega) (by omega) (by omega)
                have c8 := hS.one.cell 0
                simp at c8
                have HS8 := Lib.hid hS
                clear hR hG hS
                exact ⟨rfl, new_fr hf0 HG8.out (fun k hk => .inl hk), rfl, HR8.out⟩
              · go_wp2_with fail
                refine (HCo.out n (by omega) _ i _ trivial HR7.out (by omega) HY.out).mono ?_
                rintro e w8 ⟨hG, x, j, rfl, ⟨b, o, nm, hb, rfl, rfl, hblk⟩, hj, rfl, hR⟩
                have hbv := HS7.out.two.fr hG (by omega)
                have dd := hbv.cell 0
                have gd := hbv.free 0
                simp at dd
                have hl5 := hbv.lt
                have HO := Lib.hid (And.intro hG (And.intro hbv (And.intro hblk hR)))
                clear hG hbv hblk hR
                go_wp2_with fail
                obtain ⟨hG, hbv, hblk, hR⟩ := HO.out
                have hsz := HG7.out.size
                simp only [World.size_alloc] at hsz
                have hput := hbv.put 0 (.iface 211 (.pointer (some ⟨b, 0, none⟩)))
                have hfs : Fr (· = (W.heap.size + 1)) w8 (w8.setCell ⟨(W.heap.size + 1), 0, none⟩ (.iface 211 (.pointer (some ⟨b, 0, none⟩)))) := (Fr.refl (· = (W.heap.size + 1)) _).set (p := ⟨(W.heap.size + 1), 0, none⟩) (.inr rfl) _
                refine bodyPost_ret (results_cell1 rfl _ _ (W.heap.size + 1) 201 _ _ rfl hput rfl rfl) rfl ⟨new_fr hf0 (((HG7.out.t hG).mono (fun _ _ h => Or.inl h : ∀ k, _ → k = r → SS r (W.heap.size + 1) k)).t (hfs.mono (fun _ _ h => Or.inr h))) (fun k hk => by omega), _, j, rfl, ⟨b, (show W.heap.size ≤ b by omega), rfl, hblk.far (by simp only [ne_eq]; omega) _⟩, hj, rfl, hR.fr hfs (by omega) (by omega)⟩
            · rw [if_pos tb] at hy
              have Tb := Lib.hid (show isT (Bags.hd (ws.drop i)) 5 [Bags.str "("] = true from tb)
              have Sb := Lib.hid (Bags.is_sort tb)
              have := lt_of_is tb (by decide)
              clear tb
              go_wp2_with fail
              refine (is_at hC HR6.out (by omega) Tb.out (by decide) (by decide) rfl (by first | rfl | simp) rfl).mono ?_
              rintro e w7 ⟨rfl, hR, hG⟩
              have HR7 := Lib.hid hR
              have HG7 := Lib.hid (HG6.out.t hG)
              have hS := HS6.out.far hG (by omega) (by omega) (by omega)
              have c7 := hS.one.cell 0
              simp at c7
              have HS7 := Lib.hid hS
              clear hR hG hS
              have h1 := HS7.out.one
              have h2 := HS7.out.two
              have hl2 := h2.lt
              obtain ⟨hno, hyes⟩ := bracke hC hz HE.out (n := n) (by omega) h1 h2 (by omega) (by omega) (by omega) HR7.out (by omega) (y := y) (by rw [if_pos (show (Bags.hd (ws.drop i)).is 5 [Bags.str "("] = true from Tb.out)]; exact hy)
              clear h1 h2
              rcases y with _ | ⟨t, rest⟩
              · have HC := Lib.hid (hno rfl)
                clear hno hyes hy
                go_wp2_with fail
                refine HC.out.mono ?_
                rintro e w8 ⟨⟨hG, rfl, hR⟩, _⟩
                exact ⟨rfl, new_fr hf0 ((HG7.out.mono (fun _ _ h => Or.inl h)).t hG) (fun k hk => by omega), rfl, hR⟩
              · obtain ⟨j, hj, rfl, hc⟩ := hyes t rest rfl
                have HC := Lib.hid hc
                clear hno hyes hy hc
                go_wp2_with fail
                refine HC.out.mono ?_
                rintro e w8 ⟨hG, ⟨x, rfl, rfl, v, hbv, hv⟩, hR⟩
                obtain ⟨tpv, vpv, rfl⟩ := rep.iface hv
                have dd := hbv.cell 0
                have gd := hbv.free 0
                simp at dd
                have HO := Lib.hid (And.intro hR (And.intro hG (And.intro hbv hv)))
                clear hR hG hbv hv
                go_wp2_with fail
                obtain ⟨hR, hG, hbv, hv⟩ := HO.out
                have hGG := (HG7.out.mono (fun _ _ h => Or.inl h : ∀ k, _ → k = r → SS r (W.heap.size + 1) k)).t hG
                have hsz := HG7.out.size
                simp only [World.size_alloc] at hsz
                have hput := hbv.put 0 (.iface tpv vpv)
                have hfs : Fr (· = (W.heap.size + 1)) w8 (w8.setCell ⟨(W.heap.size + 1), 0, none⟩ (.iface tpv vpv)) := (Fr.refl (· = (W.heap.size + 1)) _).set (p := ⟨(W.heap.size + 1), 0, none⟩) (.inr rfl) _
                refine bodyPost_ret (results_cell1 rfl _ _ (W.heap.size + 1) 201 _ _ rfl hput rfl rfl) rfl ⟨new_fr hf0 (hGG.t (hfs.mono (fun _ _ h => Or.inr h))) (fun k hk => by omega), _, j, rfl, hv.fr hfs (fun k h => by omega) (by omega), by omega, rfl, hR.fr hfs (by omega) (by omega)⟩
          · rw [if_pos tf] at hy
            have Tf := Lib.hid (show isT (Bags.hd (ws.drop i)) 1 Bags.fns = true from tf)
            have Sf := Lib.hid (Bags.is_sort tf)
            have := lt_of_is tf (by decide)
            clear tf
            go_wp2_with fail
            refine (takes_yes hC HR5.out (by omega) (by omega) Tf.out (by decide) (by decide) rfl (by first | rfl | simp) rfl).mono ?_
            rintro e w6 ⟨rfl, hR, hG⟩
            have HR6 := Lib.hid hR
            have HG6 := Lib.hid (HG5.out.t hG)
            have hS := HS5.out.far hG (by omega) (by omega) (by omega)
            have c6 := hS.one.cell 0
            simp at c6
            have HS6 := Lib.hid hS
            clear hR hG hS
            have hw := HS6.out.word
            have h1 := HS6.out.one
            have h2 := HS6.out.two
            have hlw := hw.lt
            have hl2 := h2.lt
            obtain ⟨hno, hyes⟩ := bracka hC hz HE.out (n := n) (by omega) hw h1 h2 (by omega) (by omega) (by omega) (by omega) HR6.out (by omega) hy
            clear h1 h2
            rcases y with _ | ⟨t, rest⟩
            · have HC := Lib.hid (hno rfl)
              clear hno hyes hy hw
              go_wp2_with fail
              refine HC.out.mono ?_
              rintro e w7 ⟨⟨hG, rfl, hR⟩, _⟩
              exact ⟨rfl, new_fr hf0 ((HG6.out.mono (fun _ _ h => Or.inl h)).t hG) (fun k hk => by omega), rfl, hR⟩
            · obtain ⟨j, ea, hj, rfl, rfl, hc⟩ := hyes t rest rfl
              have HC := Lib.hid hc
              have HW := Lib.hid hw
              clear hno hyes hy hw hc
              go_wp2_with fail
              refine HC.out.mono ?_
              rintro e w7 ⟨hG, ⟨x, rfl, rfl, v, hbv, hv⟩, hR⟩
              have hw := HW.out.fr hG (by omega)
              have wc := hw.cell 1
              simp at wc
              have db := hbv.cell 0
              have db2 := fun o => (hbv.alloc o).cell 0
              have gb := fun o => (hbv.alloc o).free 0
              simp at db db2
              have hl5 := hbv.lt
              have HO := Lib.hid (And.intro hG (And.intro hbv hR))
              clear hG hbv hR hw
              rcases hv with ⟨rfl, rfl⟩ | hv
              · go_wp2_with fail
                obtain ⟨hG, hbv, hR⟩ := HO.out
                have hGG := (HG6.out.mono (fun _ _ h => Or.inl h : ∀ k, _ → k = r → SS r (W.heap.size + 1) k)).t hG
                have hsz := hGG.size
                simp only [World.size_alloc] at hsz
                have hput := (hbv.put 0 (.iface 262 (.pointer (some ⟨w7.heap.size, 0, none⟩)))).alloc (.cells #[.string (tx (Bags.hd (ws.drop i)).text), .nilIface] 264)
                have hfa := (Fr.refl (fun _ => False) (w7.setCell ⟨(W.heap.size + 1), 0, none⟩ (.iface 262 (.pointer (some ⟨w7.heap.size, 0, none⟩))))).alloc (.cells #[.string (tx (Bags.hd (ws.drop i)).text), .nilIface] 264)
                have hfs : Fr (· = (W.heap.size + 1)) w7 (w7.setCell ⟨(W.heap.size + 1), 0, none⟩ (.iface 262 (.pointer (some ⟨w7.heap.size, 0, none⟩)))) := (Fr.refl (· = (W.heap.size + 1)) _).set (p := ⟨(W.heap.size + 1), 0, none⟩) (.inr rfl) _
                refine bodyPost_ret (results_cell1 rfl _ _ (W.heap.size + 1) 201 _ _ rfl hput rfl rfl) rfl ⟨new_fr hf0 ((hGG.t (hfs.mono (fun _ _ h => Or.inr h))).alloc (.cells #[.string (tx (Bags.hd (ws.drop i)).text), .nilIface] 264)) (fun k hk => by omega), _, j, rfl, ?_, by omega, rfl, (hR.fr hfs (by omega) (by omega)).alloc (.cells #[.string (tx (Bags.hd (ws.drop i)).text), .nilIface] 264)⟩
                exact (show rep ((w7.setCell ⟨(W.heap.size + 1), 0, none⟩ (.iface 262 (.pointer (some ⟨w7.heap.size, 0, none⟩)))).alloc (.cells #[.string (tx (Bags.hd (ws.drop i)).text), .nilIface] 264)) W.heap.size (.agg (Bags.hd (ws.drop i)).text .none) [(.iface 262 (.pointer (some ⟨w7.heap.size, 0, none⟩)))] from ⟨_, .inl ⟨rfl, rfl⟩, _, (show W.heap.size ≤ w7.heap.size by omega), rfl, Blk.made' (by simp) _ _⟩)
              · obtain ⟨tpv, vpv, rfl⟩ := rep.iface hv
                have HV := Lib.hid hv
                clear hv
                go_wp2_with fail
                obtain ⟨hG, hbv, hR⟩ := HO.out
                have hGG := (HG6.out.mono (fun _ _ h => Or.inl h : ∀ k, _ → k = r → SS r (W.heap.size + 1) k)).t hG
                have hsz := hGG.size
                simp only [World.size_alloc] at hsz
                have hput := (hbv.put 0 (.iface 262 (.pointer (some ⟨w7.heap.size, 0, none⟩)))).alloc (.cells #[.string (tx (Bags.hd (ws.drop i)).text), .iface tpv vpv] 264)
                have hfa := (Fr.refl (fun _ => False) (w7.setCell ⟨(W.heap.size + 1), 0, none⟩ (.iface 262 (.pointer (some ⟨w7.heap.size, 0, none⟩))))).alloc (.cells #[.string (tx (Bags.hd (ws.drop i)).text), .iface tpv vpv] 264)
                have hfs : Fr (· = (W.heap.size + 1)) w7 (w7.setCell ⟨(W.heap.size + 1), 0, none⟩ (.iface 262 (.pointer (some ⟨w7.heap.size, 0, none⟩)))) := (Fr.refl (· = (W.heap.size + 1)) _).set (p := ⟨(W.heap.size + 1), 0, none⟩) (.inr rfl) _
                refine bodyPost_ret (results_cell1 rfl _ _ (W.heap.size + 1) 201 _ _ rfl hput rfl rfl) rfl ⟨new_fr hf0 ((hGG.t (hfs.mono (fun _ _ h => Or.inr h))).alloc (.cells #[.string (tx (Bags.hd (ws.drop i)).text), .iface tpv vpv] 264)) (fun k hk => by omega), _, j, rfl, ?_, by omega, rfl, (hR.fr hfs (by omega) (by omega)).alloc (.cells #[.string (tx (Bags.hd (ws.drop i)).text), .iface tpv vpv] 264)⟩
                exact (show rep ((w7.setCell ⟨(W.heap.size + 1), 0, none⟩ (.iface 262 (.pointer (some ⟨w7.heap.size, 0, none⟩)))).alloc (.cells #[.string (tx (Bags.hd (ws.drop i)).text), .iface tpv vpv] 264)) W.heap.size (.agg (Bags.hd (ws.drop i)).text ea) [(.iface 262 (.pointer (some ⟨w7.heap.size, 0, none⟩)))] from ⟨_, .inr ((HV.out.fr hfs (fun k h => by omega) (by omega)).fr hfa (fun _ h => h.elim) (Nat.le_refl _)), _, (show W.heap.size ≤ w7.heap.size by omega), rfl, Blk.made' (by simp) _ _⟩)
        · rw [if_pos tnl] at hy
          have Tnl := Lib.hid (show isT (Bags.hd (ws.drop i)) 1 [Bags.str "null"] = true from tnl)
          have Snl := Lib.hid (Bags.is_sort tnl)
          have := lt_of_is tnl (by decide)
          clear tnl
          go_wp2_with fail
          refine (takes_yes hC HR4.out (by omega) (by omega) Tnl.out (by decide) (by decide) rfl (by first | rfl | simp) rfl).mono ?_
          rintro e w5 ⟨rfl, hR, hG⟩
          have HR5 := Lib.hid hR
          have HG5 := Lib.hid (HG4.out.t hG)
          have hS := HS4.out.far hG (by omega) (by omega) (by omega)
          have c5 := hS.one.cell 0
          simp at c5
          have HS5 := Lib.hid hS
          clear hR hG hS
          have HY := Lib.hid hy
          have hvv := HS5.out.two
          have db := fun o => (hvv.alloc o).cell 0
          have gb := fun o => (hvv.alloc o).free 0
          simp at db
          have hlv := hvv.lt
          have HVV := Lib.hid hvv
          clear hy hvv
          go_wp2_with fail
          obtain ⟨rfl⟩ : some (.null, ws.drop (i + 1)) = y := by simpa [Bags.ok] using HY.out
          have hput := (HVV.out.put 0 (.iface 259 (.pointer (some ⟨w5.heap.size, 0, none⟩)))).alloc (.cells #[.iface 155 (.agg #[])] 261)
          have hfa := (Fr.refl (fun _ => False) (w5.setCell ⟨(W.heap.size + 1), 0, none⟩ (.iface 259 (.pointer (some ⟨w5.heap.size, 0, none⟩))))).alloc (.cells #[.iface 155 (.agg #[])] 261)
          have hfs : Fr (· = (W.heap.size + 1)) w5 (w5.setCell ⟨(W.heap.size + 1), 0, none⟩ (.iface 259 (.pointer (some ⟨w5.heap.size, 0, none⟩)))) := (Fr.refl (· = (W.heap.size + 1)) _).set (p := ⟨(W.heap.size + 1), 0, none⟩) (.inr rfl) _
          refine bodyPost_ret (results_cell1 rfl _ _ (W.heap.size + 1) 201 _ _ rfl hput rfl rfl) rfl ⟨new_fr hf0 (((HG5.out.mono (fun _ _ h => Or.inl h)).t (hfs.mono (fun _ _ h => Or.inr h))).alloc (.cells #[.iface 155 (.agg #[])] 261) : Fr (SS r (W.heap.size + 1)) _ _) (fun k hk => by omega), _, (i + 1), rfl, ?_, by omega, rfl, (HR5.out.fr hfs (by omega) (by omega)).alloc (.cells #[.iface 155 (.agg #[])] 261)⟩
          exact (show rep ((w5.setCell ⟨(W.heap.size + 1), 0, none⟩ (.iface 259 (.pointer (some ⟨w5.heap.size, 0, none⟩)))).alloc (.cells #[.iface 155 (.agg #[])] 261)) W.heap.size .null [(.iface 259 (.pointer (some ⟨w5.heap.size, 0, none⟩)))] from ⟨_, (show W.heap.size ≤ w5.heap.size by omega), rfl, Blk.made' (by simp) _ _⟩)
  · rw [if_pos tm] at hy
    have Tm := Lib.hid (show isT (Bags.hd (ws.drop i)) 5 [Bags.str "-"] = true from tm)
    have Sm := Lib.hid (Bags.is_sort tm)
    have := lt_of_is tm (by decide)
    clear tm
    go_wp2_with fail
    refine (takes_yes hC (W := (((W.alloc (.cells #[.pointer (some ⟨r, 0, none⟩)] 140)).alloc (.cells #[.nilIface] 201)).alloc (.cells #[.int .i64 (Bags.hd (ws.drop i)).sort, .string (tx (Bags.hd (ws.drop i)).text), .int .i64 (Bags.hd (ws.drop i)).num] 149)).drew) HRw.out (by omega) (by omega) Tm.out (by decide) (by decide) rfl (by first | rfl | simp) rfl).mono ?_
    rintro e w2 ⟨rfl, hR, hG⟩
    have HR2 := Lib.hid hR
    have HG2 := Lib.hid (HGw.out.t hG)
    have hS := HSw.out.far hG (by omega) (by omega) (by omega)
    have c2 := hS.one.cell 0
    simp at c2
    have HS2 := Lib.hid hS
    clear hR hG hS
    rcases Bags.andThen_some hy with ⟨hp, rfl⟩ | ⟨ea, rest, hp, hy⟩
    · have HP := Lib.hid hp
      clear hp
      go_wp2_with fail
      refine (HM.out n (by omega) _ (i + 1) _ trivial HR2.out (by omega) HP.out).mono ?_
      rintro e w3 ⟨hG, rfl, hR⟩
      have HR3 := Lib.hid hR
      have HG3 := Lib.hid (HG2.out.t hG)
      have hS := HS2.out.far hG (by omega) (by omega) (by omega)
      have c3 := hS.one.cell 0
      simp at c3
      have HS3 := Lib.hid hS
      clear hR hG hS
      exact ⟨rfl, new_fr hf0 HG3.out (fun k hk => .inl hk), rfl, HR3.out⟩
    · obtain ⟨ja, _, _, rfl⟩ := drop_of hp (by omega)
      have HP := Lib.hid hp
      clear hp
      go_wp2_with fail
      refine (HM.out n (by omega) _ (i + 1) _ trivial HR2.out (by omega) HP.out).mono ?_
      rintro e w3 ⟨hG, x3, jx, rfl, hx, hjx, hdr, hR⟩
      obtain rfl : ja = jx := drop_inj (by assumption) hjx hdr
      obtain ⟨tpa, vpa, rfl⟩ := rep.iface hx
      have HXa := Lib.hid (rep.fr (Fr.refl (fun _ => False) _) (fun _ h => h.elim) (show W.heap.size + 2 ≤ _ by have := HG2.out.size; simp only [World.size_alloc] at this; omega) hx)
      have HR3 := Lib.hid hR
      have HG3 := Lib.hid (HG2.out.t hG)
      have hS := HS2.out.far hG (by omega) (by omega) (by omega)
      have c3 := hS.one.cell 0
      simp at c3
      have HS3 := Lib.hid hS
      clear hR hG hS
      clear hx
      have HY := Lib.hid hy
      have hvv := HS3.out.two
      have db := fun o => (hvv.alloc o).cell 0
      have gb := fun o => (hvv.alloc o).free 0
      simp at db
      have hlv := hvv.lt
      have HVV := Lib.hid hvv
      clear hy hvv
      go_wp2_with fail
      obtain ⟨rfl⟩ : some ((.neg ea), ws.drop ja) = y := by simpa [Bags.ok] using HY.out
      have hput := (HVV.out.put 0 (.iface 256 (.pointer (some ⟨w3.heap.size, 0, none⟩)))).alloc (.cells #[.iface tpa vpa] 258)
      have hfa := (Fr.refl (fun _ => False) (w3.setCell ⟨(W.heap.size + 1), 0, none⟩ (.iface 256 (.pointer (some ⟨w3.heap.size, 0, none⟩))))).alloc (.cells #[.iface tpa vpa] 258)
      have hfs : Fr (· = (W.heap.size + 1)) w3 (w3.setCell ⟨(W.heap.size + 1), 0, none⟩ (.iface 256 (.pointer (some ⟨w3.heap.size, 0, none⟩)))) := (Fr.refl (· = (W.heap.size + 1)) _).set (p := ⟨(W.heap.size + 1), 0, none⟩) (.inr rfl) _
      refine bodyPost_ret (results_cell1 rfl _ _ (W.heap.size + 1) 201 _ _ rfl hput rfl rfl) rfl ⟨new_fr hf0 (((HG3.out.mono (fun _ _ h => Or.inl h)).t (hfs.mono (fun _ _ h => Or.inr h))).alloc (.cells #[.iface tpa vpa] 258) : Fr (SS r (W.heap.size + 1)) _ _) (fun k hk => by omega), _, ja, rfl, ?_, by omega, rfl, (HR3.out.fr hfs (by omega) (by omega)).alloc (.cells #[.iface tpa vpa] 258)⟩
      exact (show rep ((w3.setCell ⟨(W.heap.size + 1), 0, none⟩ (.iface 256 (.pointer (some ⟨w3.heap.size, 0, none⟩)))).alloc (.cells #[.iface tpa vpa] 258)) W.heap.size (.neg ea) [(.iface 256 (.pointer (some ⟨w3.heap.size, 0, none⟩)))] from ⟨_, (HXa.out.fr hfs (fun k h => by omega) (by omega)).fr hfa (fun _ h => h.elim) (Nat.le_refl _), ⟨_, (show W.heap.size ≤ w3.heap.size by omega), rfl, Blk.made' (by simp) _ _⟩⟩)
end Go.Proofs.YtoephflcjllaaaaGreatDoor
