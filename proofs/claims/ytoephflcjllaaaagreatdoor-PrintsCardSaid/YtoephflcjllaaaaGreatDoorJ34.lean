/- Walks of the reference's cutter: source, column, named. -/
import Derived.Test.YtoephflcjllaaaaGreatDoorJ33
namespace Go.Proofs.YtoephflcjllaaaaGreatDoor
open Go.RowKit

theorem IsRes.drew {c : Ctx} {k : Bags.K} {i j : Nat} {w w' : World} {e : Ending} (h : IsRes c k i j w e w') : IsRes c k i j w e w'.drew := by
  obtain ⟨h1, h2, h3⟩ := h
  refine ⟨h1.drew, h2.drew, h3.imp id fun ⟨b, t, e1, e2, e3, e4⟩ => ⟨b, t, e1, e2, e3.fr ((Fr.refl (· = c.M) w').drew) h1.lt.2.2.1, e4⟩⟩
theorem str_as : Bags.str "as" = bs ⟨#[97, 115]⟩ := by decide
theorem str_dot : Bags.str "." = bs ⟨#[46]⟩ := by decide
theorem IsRes.no {c : Ctx} {k : Bags.K} {i j : Nat} {w w' : World} (hc : CS c w') (hf : Fr (· = c.M) w w') (h : ¬ Bags.Has c.ws k i j) : IsRes c k i j w (.returned (.pointer none)) w' := ⟨hc, hf, .inl ⟨rfl, h⟩⟩

set_option maxRecDepth 100000 in
set_option maxHeartbeats 8000000 in
theorem sourceR_any {c : Ctx} {i j : Nat} (hij : i < j) (hj : j ≤ c.n) (w : World) (h : CS c w) :
    Calls Tryz.prog 89 #[.pointer (some ⟨c.C, 0, none⟩), .int .i64 i, .int .i64 j] w (IsRes c .source i j w) := by
  have hn := h.pos.2
  have hN1 := name_any c w h i
  have hN2 := name_any c w h (i + 2)
  have hK := key_any c w h (i + 1) ⟨#[97, 115]⟩
  rw [← str_as] at hK
  rw [show ((i + 2 : Nat) : Int) = (i : Int) + 2 by omega] at hN2
  rw [show ((i + 1 : Nat) : Int) = (i : Int) + 1 by omega] at hK
  unfold ptr at hN1 hN2 hK
  have HH := Lib.hid (Bags.Has.source (ws := c.ws) (i := i) (j := j))
  obtain ⟨_, wt1, _⟩ := h.word (show i < c.n by omega)
  have c0 := h.blk.cell 0
  have hcap := h.capn
  unfold maxLen at hcap
  simp at c0
  have hi0 : (0 : Int) ≤ (i : Int) := by omega
  have hin : (i : Int) < (c.n : Int) := by omega
  have HC := Lib.hid h
  have hS1 : ((Bags.wd c.ws i).sort == 2) = true → (Bags.wd c.ws i).sort = 2 := by simp
  have hS2 : ((Bags.wd c.ws (i + 2)).sort == 2) = true → (Bags.wd c.ws (i + 2)).sort = 2 := by simp
  have hS1' : ((Bags.wd c.ws i).sort == 2) = false → (Bags.wd c.ws i).sort ≠ 2 := by simp
  have hS2' : ((Bags.wd c.ws (i + 2)).sort == 2) = false → (Bags.wd c.ws (i + 2)).sort ≠ 2 := by simp
  generalize ((Bags.wd c.ws i).sort == 2) = B1 at *
  generalize ((Bags.wd c.ws (i + 2)).sort == 2) = B3 at *
  generalize hb2 : (Bags.wd c.ws (i + 1)).is 1 [Bags.str "as"] = B2 at *
  have HS := Lib.hid (And.intro hS1 (And.intro hS2 (And.intro hS1' (And.intro hS2' hb2))))
  have H1 := Lib.hid hN1
  have H2 := Lib.hid hN2
  have HK := Lib.hid hK
  clear hN1 hN2 hK hS1 hS2 hS1' hS2' hb2 h
  cases B1
  · have hno := fun h => (HS.out.2.2.1 (by trivial)) (HH.out h).1
    have HNO := Lib.hid hno
    clear hno
    go_enter Tryz.func89, Tryz.ntmps89
    go_wp2_with fail
    refine H1.out.mono ?_
    rintro e w1 ⟨rfl, rfl⟩
    go_wp2_with fail
    go_ret
    exact .no HC.out (Fr.refl _ _) HNO.out
  · by_cases hj1 : j = i + 1
    · subst hj1
      go_enter Tryz.func89, Tryz.ntmps89
      go_wp2_with fail
      refine H1.out.mono ?_
      rintro e w1 ⟨rfl, rfl⟩
      go_wp2_with fail
      go_ret
      exact IsRes.leaf HC.out (Fr.refl _ _) (t := .src (Bags.wd c.ws i).text []) (kd := Bags.str "source") (sg := []) (txt := (Bags.wd c.ws i).text) (of_ := []) (as_ := []) (nm := 0) (st := false) (nt := false) (al := false) rfl (fun w2 h _ => h) (Bags.Der.s1 (by show i < c.n; omega) (HS.out.1 (by trivial)))
    · have hj1' : ¬ (j : Int) = (i : Int) + 1 := by omega
      have hj1b : ((j : Int) == (i : Int) + 1) = false := beq_eq_false_iff_ne.2 hj1'
      by_cases hj3 : j = i + 3
      · subst hj3
        have hj3b : (((i + 3 : Nat) : Int) == (i : Int) + 3) = true := by simp
        cases B2
        · have HNO := Lib.hid (fun h => by
            rcases (HH.out h).2 with h | h
            · exact hj1 h
            · exact absurd h.2.1 (by decide))
          go_enter Tryz.func89, Tryz.ntmps89
          go_wp2_with fail
          refine H1.out.mono ?_
          rintro e w1 ⟨rfl, rfl⟩
          go_wp2_with fail
          refine HK.out.mono ?_
          rintro e w1 ⟨rfl, rfl⟩
          go_wp2_with fail
          go_ret
          exact .no HC.out (Fr.refl _ _) HNO.out
        · cases B3
          · have HNO := Lib.hid (fun h => by
              rcases (HH.out h).2 with h | h
              · exact hj1 h
              · exact HS.out.2.2.2.1 (by trivial) h.2.2)
            go_enter Tryz.func89, Tryz.ntmps89
            go_wp2_with fail
            refine H1.out.mono ?_
            rintro e w1 ⟨rfl, rfl⟩
            go_wp2_with fail
            refine HK.out.mono ?_
            rintro e w1 ⟨rfl, rfl⟩
            go_wp2_with fail
            refine H2.out.mono ?_
            rintro e w1 ⟨rfl, rfl⟩
            go_wp2_with fail
            go_ret
            exact .no HC.out (Fr.refl _ _) HNO.out
          · obtain ⟨_, wt3, _⟩ := HC.out.word (show i + 2 < c.n by omega)
            have hi2 : (0 : Int) ≤ (i : Int) + 2 := by omega
            have hin2 : (i : Int) + 2 < (c.n : Int) := by omega
            have hwr : IntKind.i64.wrap ((i : Int) + 2) = (i : Int) + 2 := iwrap (by omega)
            have hto : ((i : Int) + 2).toNat = i + 2 := by omega
            go_enter Tryz.func89, Tryz.ntmps89
            go_wp2_with fail
            refine H1.out.mono ?_
            rintro e w1 ⟨rfl, rfl⟩
            go_wp2_with fail
            refine HK.out.mono ?_
            rintro e w1 ⟨rfl, rfl⟩
            go_wp2_with fail
            refine H2.out.mono ?_
            rintro e w1 ⟨rfl, rfl⟩
            go_wp2_with fail
            go_region_held3 (fun w' => w'.cell? ⟨c.C, 0, none⟩ = some (.slice (some ⟨c.W, 0, none⟩) c.n c.cap) ∧ w'.cell? ⟨c.W, i * 3 + 1, none⟩ = some (.string (tx (Bags.wd c.ws i).text)) ∧ w'.cell? ⟨c.W, (i + 2) * 3 + 1, none⟩ = some (.string (tx (Bags.wd c.ws (i + 2)).text)))
              (first | exact ⟨c0, wt1, wt3⟩ | exact ⟨cell_alloc c0 _, cell_alloc wt1 _, cell_alloc wt3 _⟩ | go_keep) (fail)
            all_goals go_wp2_with fail
            go_ret
            exact IsRes.drew (IsRes.leaf HC.out (Fr.refl _ _) (t := .src (Bags.wd c.ws i).text (Bags.wd c.ws (i + 2)).text) (kd := Bags.str "source") (sg := []) (txt := (Bags.wd c.ws i).text) (of_ := []) (as_ := (Bags.wd c.ws (i + 2)).text) (nm := 0) (st := false) (nt := false) (al := false) rfl (fun w2 h _ => h) (Bags.Der.s2 (by show i + 3 ≤ c.n; omega) (HS.out.1 (by trivial)) HS.out.2.2.2.2 (HS.out.2.1 (by trivial))))
      · have hj3b : ((j : Int) == (i : Int) + 3) = false := beq_eq_false_iff_ne.2 (by omega)
        have HNO := Lib.hid (fun h => by
          rcases (HH.out h).2 with h | h
          · exact hj1 h
          · exact hj3 h.1)
        go_enter Tryz.func89, Tryz.ntmps89
        go_wp2_with fail
        refine H1.out.mono ?_
        rintro e w1 ⟨rfl, rfl⟩
        go_wp2_with fail
        go_ret
        exact .no HC.out (Fr.refl _ _) HNO.out

set_option maxRecDepth 100000 in
set_option maxHeartbeats 8000000 in
theorem columnR_any {c : Ctx} {i j : Nat} (hij : i < j) (hj : j ≤ c.n) (w : World) (h : CS c w) :
    Calls Tryz.prog 90 #[.pointer (some ⟨c.C, 0, none⟩), .int .i64 i, .int .i64 j] w (IsRes c .col i j w) := by
  have hn := h.pos.2
  have hN1 := name_any c w h i
  have hN2 := name_any c w h (i + 2)
  have hK := sign_any c w h (i + 1) ⟨#[46]⟩
  rw [← str_dot] at hK
  rw [show ((i + 2 : Nat) : Int) = (i : Int) + 2 by omega] at hN2
  rw [show ((i + 1 : Nat) : Int) = (i : Int) + 1 by omega] at hK
  unfold ptr at hN1 hN2 hK
  have HH := Lib.hid (Bags.Has.col (ws := c.ws) (i := i) (j := j))
  obtain ⟨_, wt1, _⟩ := h.word (show i < c.n by omega)
  have c0 := h.blk.cell 0
  have hcap := h.capn
  unfold maxLen at hcap
  simp at c0
  have hi0 : (0 : Int) ≤ (i : Int) := by omega
  have hin : (i : Int) < (c.n : Int) := by omega
  have HC := Lib.hid h
  have hS1 : ((Bags.wd c.ws i).sort == 2) = true → (Bags.wd c.ws i).sort = 2 := by simp
  have hS2 : ((Bags.wd c.ws (i + 2)).sort == 2) = true → (Bags.wd c.ws (i + 2)).sort = 2 := by simp
  have hS1' : ((Bags.wd c.ws i).sort == 2) = false → (Bags.wd c.ws i).sort ≠ 2 := by simp
  have hS2' : ((Bags.wd c.ws (i + 2)).sort == 2) = false → (Bags.wd c.ws (i + 2)).sort ≠ 2 := by simp
  generalize ((Bags.wd c.ws i).sort == 2) = B1 at *
  generalize ((Bags.wd c.ws (i + 2)).sort == 2) = B3 at *
  generalize hb2 : (Bags.wd c.ws (i + 1)).is 5 [Bags.str "."] = B2 at *
  have HS := Lib.hid (And.intro hS1 (And.intro hS2 (And.intro hS1' (And.intro hS2' hb2))))
  have H1 := Lib.hid hN1
  have H2 := Lib.hid hN2
  have HK := Lib.hid hK
  clear hN1 hN2 hK hS1 hS2 hS1' hS2' hb2 h
  cases B1
  · have hno := fun h => (HS.out.2.2.1 (by trivial)) (HH.out h).1
    have HNO := Lib.hid hno
    clear hno
    go_enter Tryz.func90, Tryz.ntmps90
    go_wp2_with fail
    refine H1.out.mono ?_
    rintro e w1 ⟨rfl, rfl⟩
    go_wp2_with fail
    go_ret
    exact .no HC.out (Fr.refl _ _) HNO.out
  · by_cases hj1 : j = i + 1
    · subst hj1
      go_enter Tryz.func90, Tryz.ntmps90
      go_wp2_with fail
      refine H1.out.mono ?_
      rintro e w1 ⟨rfl, rfl⟩
      go_wp2_with fail
      go_ret
      exact IsRes.leaf HC.out (Fr.refl _ _) (t := .col [] (Bags.wd c.ws i).text) (kd := Bags.str "column") (sg := []) (txt := (Bags.wd c.ws i).text) (of_ := []) (as_ := []) (nm := 0) (st := false) (nt := false) (al := false) rfl (fun w2 h _ => h) (Bags.Der.co1 (by show i < c.n; omega) (HS.out.1 (by trivial)))
    · have hj1' : ¬ (j : Int) = (i : Int) + 1 := by omega
      have hj1b : ((j : Int) == (i : Int) + 1) = false := beq_eq_false_iff_ne.2 hj1'
      by_cases hj3 : j = i + 3
      · subst hj3
        have hj3b : (((i + 3 : Nat) : Int) == (i : Int) + 3) = true := by simp
        cases B2
        · have HNO := Lib.hid (fun h => by
            rcases (HH.out h).2 with h | h
            · exact hj1 h
            · exact absurd h.2.1 (by decide))
          go_enter Tryz.func90, Tryz.ntmps90
          go_wp2_with fail
          refine H1.out.mono ?_
          rintro e w1 ⟨rfl, rfl⟩
          go_wp2_with fail
          refine HK.out.mono ?_
          rintro e w1 ⟨rfl, rfl⟩
          go_wp2_with fail
          go_ret
          exact .no HC.out (Fr.refl _ _) HNO.out
        · cases B3
          · have HNO := Lib.hid (fun h => by
              rcases (HH.out h).2 with h | h
              · exact hj1 h
              · exact HS.out.2.2.2.1 (by trivial) h.2.2)
            go_enter Tryz.func90, Tryz.ntmps90
            go_wp2_with fail
            refine H1.out.mono ?_
            rintro e w1 ⟨rfl, rfl⟩
            go_wp2_with fail
            refine HK.out.mono ?_
            rintro e w1 ⟨rfl, rfl⟩
            go_wp2_with fail
            refine H2.out.mono ?_
            rintro e w1 ⟨rfl, rfl⟩
            go_wp2_with fail
            go_ret
            exact .no HC.out (Fr.refl _ _) HNO.out
          · obtain ⟨_, wt3, _⟩ := HC.out.word (show i + 2 < c.n by omega)
            have hi2 : (0 : Int) ≤ (i : Int) + 2 := by omega
            have hin2 : (i : Int) + 2 < (c.n : Int) := by omega
            have hwr : IntKind.i64.wrap ((i : Int) + 2) = (i : Int) + 2 := iwrap (by omega)
            have hto : ((i : Int) + 2).toNat = i + 2 := by omega
            go_enter Tryz.func90, Tryz.ntmps90
            go_wp2_with fail
            refine H1.out.mono ?_
            rintro e w1 ⟨rfl, rfl⟩
            go_wp2_with fail
            refine HK.out.mono ?_
            rintro e w1 ⟨rfl, rfl⟩
            go_wp2_with fail
            refine H2.out.mono ?_
            rintro e w1 ⟨rfl, rfl⟩
            go_wp2_with fail
            go_region_held3 (fun w' => w'.cell? ⟨c.C, 0, none⟩ = some (.slice (some ⟨c.W, 0, none⟩) c.n c.cap) ∧ w'.cell? ⟨c.W, i * 3 + 1, none⟩ = some (.string (tx (Bags.wd c.ws i).text)) ∧ w'.cell? ⟨c.W, (i + 2) * 3 + 1, none⟩ = some (.string (tx (Bags.wd c.ws (i + 2)).text)))
              (first | exact ⟨c0, wt1, wt3⟩ | exact ⟨cell_alloc c0 _, cell_alloc wt1 _, cell_alloc wt3 _⟩ | go_keep) (fail)
            all_goals go_wp2_with fail
            go_ret
            exact IsRes.drew (IsRes.leaf HC.out (Fr.refl _ _) (t := .col (Bags.wd c.ws i).text (Bags.wd c.ws (i + 2)).text) (kd := Bags.str "column") (sg := []) (txt := (Bags.wd c.ws (i + 2)).text) (of_ := (Bags.wd c.ws i).text) (as_ := []) (nm := 0) (st := false) (nt := false) (al := false) rfl (fun w2 h _ => h) (Bags.Der.co2 (by show i + 3 ≤ c.n; omega) (HS.out.1 (by trivial)) HS.out.2.2.2.2 (HS.out.2.1 (by trivial))))
      · have hj3b : ((j : Int) == (i : Int) + 3) = false := beq_eq_false_iff_ne.2 (by omega)
        have HNO := Lib.hid (fun h => by
          rcases (HH.out h).2 with h | h
          · exact hj1 h
          · exact hj3 h.1)
        go_enter Tryz.func90, Tryz.ntmps90
        go_wp2_with fail
        refine H1.out.mono ?_
        rintro e w1 ⟨rfl, rfl⟩
        go_wp2_with fail
        go_ret
        exact .no HC.out (Fr.refl _ _) HNO.out
end Go.Proofs.YtoephflcjllaaaaGreatDoor
/- Walks of the reference's cutter: named, query. -/
namespace Go.Proofs.YtoephflcjllaaaaGreatDoor
open Go.RowKit

set_option maxRecDepth 100000 in
set_option maxHeartbeats 2000000 in
theorem is_neg {c : Ctx} {k i : Nat} (j : Int) (hj : j < 0) (w : World) :
    Calls Tryz.prog 42 #[.pointer (some ⟨c.C, 0, none⟩), .int .i64 k, .int .i64 i, .int .i64 j] w fun e w' => e = .returned (.pointer none) ∧ w = w' := by
  have hij' : j ≤ (i : Int) := by omega
  go_enter Tryz.func42, Tryz.ntmps42
  go_wp2_with fail
  go_ret
  exact ⟨rfl, rfl⟩

set_option maxRecDepth 100000 in
set_option maxHeartbeats 8000000 in
theorem named_any {c : Ctx} {N : Nat} (hI : IsOK c N) {i j : Nat} (hij : i < j) (hj : j ≤ c.n) (hN : rank 6 i j ≤ N) (w : World) (h : CS c w) :
    Calls Tryz.prog 88 #[.pointer (some ⟨c.C, 0, none⟩), .int .i64 15, .int .i64 i, .int .i64 j] w (IsRes c .item i j w) := by
  have hn := h.pos.2
  have h1 : Calls Tryz.prog 42 #[.pointer (some ⟨c.C, 0, none⟩), .int .i64 15, .int .i64 i, .int .i64 j] w (IsRes c .expr i j w) :=
    hI 15 i j w (by decide) (Nat.lt_of_lt_of_le (rank_same (by decide)) hN) (by omega) (by omega) h
  have H1 := Lib.hid h1
  have HH := Lib.hid (Bags.Has.item (ws := c.ws) (i := i) (j := j))
  have HIS := Lib.hid hI
  have hj1 : (1 : Int) ≤ (j : Int) := by omega
  clear h1 hI
  by_cases hj2 : j < 2
  · have hjm : (j : Int) - 2 < 0 := by omega
    have HK := Lib.hid (fun W => key_neg c.C W ((j : Int) - 2) hjm ⟨#[97, 115]⟩)
    have HI2 := Lib.hid (fun W => is_neg (c := c) (k := 15) (i := i) ((j : Int) - 2) hjm W)
    have HNO := Lib.hid (fun (h : ¬ Bags.Has c.ws .expr i j) (h' : Bags.Has c.ws .item i j) => show False from by
      rcases HH.out h' with h' | h'
      · exact h h'
      · omega)
    clear h
    go_enter Tryz.func88, Tryz.ntmps88
    go_wp2_with fail
    refine H1.out.mono ?_
    rintro e w1 ⟨hc, hf, ⟨rfl, hno⟩ | ⟨b, t, rfl, hb, ht, hd⟩⟩
    · have HX := Lib.hid (And.intro hc hf)
      clear hc hf
      go_wp2_with fail
      refine (HK.out _).mono ?_
      rintro e w2 ⟨rfl, rfl⟩
      go_wp2_with fail
      refine (HI2.out _).mono ?_
      rintro e w2 ⟨rfl, rfl⟩
      go_wp2_with fail
      go_ret
      exact .no HX.out.1 HX.out.2 (HNO.out hno)
    · have HX := Lib.hid (And.intro hc (And.intro hf (And.intro ht hd)))
      clear hc hf ht hd
      go_wp2_with fail
      go_ret
      exact IsRes.one HX.out.1 HX.out.2.1 (t := .item t []) (kd := Bags.str "item") (sg := []) (txt := []) (of_ := []) (as_ := []) (nm := 0) (st := false) (nt := false) (al := false) rfl (fun w2 h2 hf2 => ⟨b, HX.out.2.2.1.fr hf2 HX.out.1.lt.2.2.1, h2⟩) HX.out.2.2.2.i1
  · have hN1 := fun W h => name_any c W h (j - 1)
    have hK := fun W h => key_any c W h (j - 2) ⟨#[97, 115]⟩
    have hI2 : ∀ W, CS c W → Calls Tryz.prog 42 #[.pointer (some ⟨c.C, 0, none⟩), .int .i64 15, .int .i64 i, .int .i64 (j - 2 : Nat)] W (IsRes c .expr i (j - 2) W) := fun W h =>
      HIS.out 15 i (j - 2) W (by decide) (Nat.lt_of_lt_of_le (rank_lt (k := 6) (i := i) (j := j) (by omega)) hN) (by omega) (by omega) h
    rw [← str_as] at hK
    simp only [show ((j - 1 : Nat) : Int) = (j : Int) - 1 by omega] at hN1
    simp only [show ((j - 2 : Nat) : Int) = (j : Int) - 2 by omega] at hK hI2
    unfold ptr at hN1 hK
    have hS1 : ((Bags.wd c.ws (j - 1)).sort == 2) = true → (Bags.wd c.ws (j - 1)).sort = 2 := by simp
    have hS1' : ((Bags.wd c.ws (j - 1)).sort == 2) = false → (Bags.wd c.ws (j - 1)).sort ≠ 2 := by simp
    generalize ((Bags.wd c.ws (j - 1)).sort == 2) = B1 at *
    generalize hb2 : (Bags.wd c.ws (j - 2)).is 1 [Bags.str "as"] = B2 at *
    have HS := Lib.hid (And.intro hS1 (And.intro hS1' hb2))
    have HN1 := Lib.hid hN1
    have HK := Lib.hid hK
    have HI2 := Lib.hid hI2
    have hj2' : (2 : Int) ≤ (j : Int) := by omega
    have hjn : (j : Int) ≤ (c.n : Int) := by omega
    clear hN1 hK hI2 hS1 hS1' hb2 h
    go_enter Tryz.func88, Tryz.ntmps88
    go_wp2_with fail
    refine H1.out.mono ?_
    rintro e w1 ⟨hc, hf, ⟨rfl, hno⟩ | ⟨b, t, rfl, hb, ht, hd⟩⟩
    · have HC1 := Lib.hid hc
      have HF1 := Lib.hid hf
      have HNO1 := Lib.hid hno
      clear hc hf hno
      cases B2
      · go_wp2_with fail
        refine (HK.out _ HC1.out).mono ?_
        rintro e w2 ⟨rfl, rfl⟩
        go_wp2_with fail
        refine (HI2.out _ HC1.out).mono ?_
        rintro e w2 ⟨hc2, hf2, h2⟩
        have HC2 := Lib.hid hc2
        have HF2 := Lib.hid (HF1.out.trans hf2 (fun _ _ h => h))
        clear hc2 hf2
        have HNO := Lib.hid (fun (h' : Bags.Has c.ws .item i j) => show False from by
          rcases HH.out h' with h' | h'
          · exact HNO1.out h'
          · exact absurd h'.2.1 (by decide))
        rcases h2 with ⟨rfl, _⟩ | ⟨b, t, rfl, _, _, _⟩
        all_goals
          go_wp2_with fail
          go_ret
          exact .no HC2.out HF2.out HNO.out
      · cases B1
        · go_wp2_with fail
          refine (HK.out _ HC1.out).mono ?_
          rintro e w2 ⟨rfl, rfl⟩
          go_wp2_with fail
          refine (HN1.out _ HC1.out).mono ?_
          rintro e w2 ⟨rfl, rfl⟩
          go_wp2_with fail
          refine (HI2.out _ HC1.out).mono ?_
          rintro e w2 ⟨hc2, hf2, h2⟩
          have HC2 := Lib.hid hc2
          have HF2 := Lib.hid (HF1.out.trans hf2 (fun _ _ h => h))
          clear hc2 hf2
          have HNO := Lib.hid (fun (h' : Bags.Has c.ws .item i j) => show False from by
            rcases HH.out h' with h' | h'
            · exact HNO1.out h'
            · exact HS.out.2.1 (by trivial) h'.2.2.1)
          rcases h2 with ⟨rfl, _⟩ | ⟨b, t, rfl, _, _, _⟩
          all_goals
            go_wp2_with fail
            go_ret
            exact .no HC2.out HF2.out HNO.out
        · go_wp2_with fail
          refine (HK.out _ HC1.out).mono ?_
          rintro e w2 ⟨rfl, rfl⟩
          go_wp2_with fail
          refine (HN1.out _ HC1.out).mono ?_
          rintro e w2 ⟨rfl, rfl⟩
          go_wp2_with fail
          refine (HI2.out _ HC1.out).mono ?_
          rintro e w2 ⟨hc2, hf2, h2⟩
          have HC2 := Lib.hid hc2
          have HF2 := Lib.hid (HF1.out.trans hf2 (fun _ _ h => h))
          obtain ⟨_, wt1, _⟩ := hc2.word (show j - 1 < c.n by omega)
          have c0 := hc2.blk.cell 0
          have hcap := hc2.capn
          unfold maxLen at hcap
          simp at c0
          have hto : ((j : Int) - 1).toNat = j - 1 := by omega
          have hj0 : (0 : Int) ≤ (j : Int) - 1 := by omega
          have hj3 : (j : Int) - 1 < (c.n : Int) := by omega
          clear hc2 hf2
          rcases h2 with ⟨rfl, hno2⟩ | ⟨b, t, rfl, hb, ht, hd⟩
          · have HNO := Lib.hid (fun (h' : Bags.Has c.ws .item i j) => show False from by
              rcases HH.out h' with h' | h'
              · exact HNO1.out h'
              · exact hno2 h'.2.2.2)
            go_wp2_with fail
            go_ret
            exact .no HC2.out HF2.out HNO.out
          · have HX := Lib.hid (And.intro ht hd)
            clear ht hd
            go_wp2_with fail
            go_ret
            exact IsRes.one HC2.out HF2.out (t := .item t (Bags.wd c.ws (j - 1)).text) (kd := Bags.str "item") (sg := []) (txt := []) (of_ := []) (as_ := (Bags.wd c.ws (j - 1)).text) (nm := 0) (st := false) (nt := false) (al := false) rfl (fun w2 h2 hf2 => ⟨b, HX.out.1.fr hf2 HC2.out.lt.2.2.1, h2⟩) (HX.out.2.i2 hj HS.out.2.2 (HS.out.1 (by trivial)))
    · have HX := Lib.hid (And.intro hc (And.intro hf (And.intro ht hd)))
      clear hc hf ht hd
      go_wp2_with fail
      go_ret
      exact IsRes.one HX.out.1 HX.out.2.1 (t := .item t []) (kd := Bags.str "item") (sg := []) (txt := []) (of_ := []) (as_ := []) (nm := 0) (st := false) (nt := false) (al := false) rfl (fun w2 h2 hf2 => ⟨b, HX.out.2.2.1.fr hf2 HX.out.1.lt.2.2.1, h2⟩) HX.out.2.2.2.i1
end Go.Proofs.YtoephflcjllaaaaGreatDoor
/- Walks of the reference's cutter: rows with commas. -/
namespace Bags
/-- A part that stands in a list. -/
def T.single : T → Prop
  | .item _ _ | .src _ _ | .col _ _ => True
  | _ => False
/-- A list of such parts. -/
def T.isRow : T → Prop
  | .none => True
  | .cons a l => a.single ∧ l.isRow
  | _ => False
def T.len : T → Nat
  | .cons _ l => l.len + 1
  | _ => 0
theorem T.snoc_row : ∀ {l x : T}, l.isRow → x.single → (l.snoc x).isRow ∧ (l.snoc x).len = l.len + 1
  | .none, x, _, hx => ⟨⟨hx, trivial⟩, rfl⟩
  | .cons a l, x, h, hx => by
    obtain ⟨h1, h2⟩ := T.snoc_row (l := l) h.2 hx
    exact ⟨⟨h.1, h1⟩, by simp only [T.snoc, T.len, h2]⟩
theorem G.rowlen {k : K} {w : List W} {t : T} (h : G k w t) : ((k = .items ∨ k = .sources ∨ k = .cols) → t.isRow ∧ t.len ≤ w.length) ∧ ((k = .item ∨ k = .source ∨ k = .col) → t.single) := by
  induction h <;> refine ⟨fun hk => ?_, fun hk => ?_⟩ <;> first
    | (exfalso; revert hk; simp; done)
    | trivial
    | skip
  case is1 h ih => exact ⟨⟨ih.2 (by simp), trivial⟩, by have := ne_len h; simp only [T.len]; omega⟩
  case ss1 h ih => exact ⟨⟨ih.2 (by simp), trivial⟩, by have := ne_len h; simp only [T.len]; omega⟩
  case cs1 h ih => exact ⟨⟨ih.2 (by simp), trivial⟩, by have := ne_len h; simp only [T.len]; omega⟩
  all_goals
    rename_i ha hb ih1 ih2
    obtain ⟨h1, h2⟩ := T.snoc_row (ih1.1 (by simp)).1 (ih2.2 (by simp))
    refine ⟨h1, ?_⟩
    have := (ih1.1 (by simp)).2
    rw [h2, List.length_append, List.length_cons]
    omega
end Bags
namespace Go.Proofs.YtoephflcjllaaaaGreatDoor
open Go.RowKit

theorem tr.single {w : World} {B : Nat} {t : Bags.T} {l : List Nat} (h : tr w B t l) (hs : t.single) : l.length = 1 := by
  cases t <;> first | (exact absurd hs id) | skip
  case col => obtain ⟨b, v, h, _⟩ := h; rw [h]; rfl
  case item => obtain ⟨x, _, b, v, h, _⟩ := h; rw [h]; rfl
  case src => obtain ⟨b, v, h, _⟩ := h; rw [h]; rfl
theorem tr.row {w : World} {B : Nat} : ∀ {t : Bags.T} {l : List Nat}, tr w B t l → t.isRow → l.length = t.len := by
  intro t
  induction t with
  | none => intro l h _; rw [show l = [] from h]; rfl
  | cons a r _ ih =>
    intro l h hr
    obtain ⟨l1, l2, rfl, h1, h2⟩ := h
    rw [List.length_append, h1.single hr.1, ih h2 hr.2]
    simp only [Bags.T.len]
    omega
  | _ => intro l _ hr; exact absurd hr id
theorem tr.snoc {w : World} {B : Nat} {x : Bags.T} {b : Nat} (hx : tr w B x [b]) : ∀ {t : Bags.T} {l : List Nat}, tr w B t l → t.isRow → tr w B (t.snoc x) (l ++ [b]) := by
  intro t
  induction t with
  | none => intro l h _; rw [show l = [] from h]; exact ⟨[b], [], rfl, hx, rfl⟩
  | cons a r _ ih =>
    intro l h hr
    obtain ⟨l1, l2, rfl, h1, h2⟩ := h
    exact ⟨l1, l2 ++ [b], by rw [List.append_assoc], h1, ih h2 hr.2⟩
  | _ => intro l _ hr; exact absurd hr id
theorem elem_trees : Elem Tryz.prog 62 30 1 8 := ⟨Tryz.underlying62, by kernel_rfl, by decide⟩

/-- An append of a row onto nil. -/
theorem wpList_append_nil {P : Program} {ops : Array Oper} {rest : List Oper} {o : Oper} {a : Act} {Q : Exit → Act → World → Prop} (hgd : o.guard = none) (s x : Operand) {t : TypeId}
    (ho : o.op = .call { callee := .builtin .append, args := #[s, x], argTypes := #[t, t] })
    {e : TypeId} {bytes : Nat} (hE : Elem P t e 1 bytes) {w : World} (hs : a.eval s = .slice none 0 0) {g m c b0 : Nat} {xs : List Value} (hx : a.eval x = .slice (some ⟨g, 0, none⟩) m c) (hown : w.ownsRow b0 e 1 (.slice (some ⟨g, 0, none⟩) m c) m xs)
    (h1 : ∀ u ∈ xs, u.oneCell' = true) (h63 : m ≤ maxLen) (hbytes : m * bytes ≤ 140737488355328)
    (h : ∀ v' w', w'.ownsRow w.heap.size e 1 v' m xs → Below w.heap.size w w' → wpList P ops Q rest (a.put o.dst v') w') :
    wpList P ops Q (o :: rest) a w := by
  obtain ⟨i, z, hi, hz, hsz, hby, hzc⟩ := hE.parts
  obtain ⟨ba, cap, hse, _, _, hcell⟩ := own_form hown
  refine wpList_append_own _ hgd s x t ho w.heap.size e i z 1 bytes hE.sl hi hz hsz hby hzc hE.pos (.slice none 0 0) 0 [] hs ⟨by simp, .inl ⟨rfl, rfl⟩⟩ ⟨g, 0, none⟩ m c xs hx (by have := hown.1; omega) ?_ h1 (by omega) (by simpa using hbytes) (Nat.le_refl _) ?_
  · intro j u hu
    have hl : xs.length = m := by have := hown.1; omega
    have hj : j < m := by rw [← hl]; exact (List.getElem?_eq_some_iff.1 hu).1
    obtain ⟨g', hg', _, _, hc⟩ := hcell (by omega)
    injection hse with hb _ _
    rw [hg'] at hb
    injection hb with hb
    injection hb with hb
    subst hb
    have : (⟨g, 0, none⟩ : Addr).add j = ⟨g, j, none⟩ := by unfold Addr.add; split <;> simp_all
    rw [this, hc j hj]
    exact hu
  · intro v' w' h2 h3 _
    refine h v' w' (by simpa using h2) ⟨h3.os, h3.tape, h3.output, h3.size, fun k hk => h3.block k hk (by simp [Value.ownBlock])⟩
theorem IsRes.kids {c : Ctx} {w w1 : World} {k : Bags.K} {i j : Nat} {t : Bags.T} {kd sg txt of_ as_ : Bags.Str} {nm : Int} {st nt al : Bool} {cs : Array Value} {ks : List Nat} {v : Value} (hc : CS c w1) (hf : Fr (· = c.M) w w1) (hv : kidsV w1 c.B v ks)
    (hcs : cs = treeC kd sg txt of_ as_ nm st nt al false v (.slice none 0 0) (.slice none 0 0) (.slice none 0 0) (.pointer none) (.pointer none))
    (ht : ∀ w2, NodeT w2 c.B kd sg txt of_ as_ nm st nt al ks [w1.heap.size] → Fr (· = c.M) w1 w2 → treeK w2 c.B k t w1.heap.size) (hd : Bags.Der c.ws k i j t) :
    IsRes c k i j w (.returned (.pointer (some ⟨w1.heap.size, 0, none⟩))) (w1.alloc (.cells cs 64)) := by
  subst hcs
  have h1 : Below w1.heap.size w1 (w1.alloc (.cells (treeC kd sg txt of_ as_ nm st nt al false v (.slice none 0 0) (.slice none 0 0) (.slice none 0 0) (.pointer none) (.pointer none)) 64)) := (Below.refl _ _).alloc (Nat.le_refl _) _
  exact ⟨hc.below h1, hf.trans (Fr.of_below (S := (· = c.M)) h1) (fun _ _ h => h), .inr ⟨_, t, rfl, hc.size, ht _ ⟨_, _, rfl, hc.size, hv.fr (Fr.of_below (S := (· = c.M)) h1) hc.lt.2.2.1, Blk.made _ _ _⟩ (Fr.of_below h1), hd⟩⟩
theorem row_tree {k : Bags.K} {k' : Bags.K} (h : Bags.rowK k = some k') (w : World) (B : Nat) (t : Bags.T) (b : Nat) : treeK w B k t b ↔ ∃ ks, ks ≠ [] ∧ tr w B t ks ∧ NodeT w B (Bags.str "row") [] [] [] [] 0 false false false ks [b] := by
  cases k <;> first | (simp [Bags.rowK] at h; done) | exact Iff.rfl
theorem row_part {k k' : Bags.K} (h : Bags.rowK k = some k') {w : World} {B : Nat} {t : Bags.T} {b : Nat} (ht : treeK w B k' t b) : tr w B t [b] := by
  cases k <;> simp [Bags.rowK] at h <;> subst h <;> exact ht
theorem row_is {k k' : Bags.K} (h : Bags.rowK k = some k') {ws : List Bags.W} {i j : Nat} {t : Bags.T} (hd : Bags.Der ws k i j t) : t.isRow ∧ t.len ≤ j - i := by
  have := (Bags.G.rowlen hd.2).1 (by cases k <;> simp [Bags.rowK] at h <;> simp)
  rwa [Bags.seg_length hd.1] at this
theorem str_comma : Bags.str "," = bs ⟨#[44]⟩ := by decide

set_option maxRecDepth 100000 in
set_option maxHeartbeats 8000000 in
theorem row_any {c : Ctx} {N : Nat} (hI : IsOK c N) {k k' i j : Nat} (hk : k < 18) (hk' : k' < 18) (hrow : Bags.rowK (kOf k) = some (kOf k')) (hrk : rk k' < rk k) (hij : i < j) (hj : j ≤ c.n) (hN : rank k i j ≤ N) (w : World) (h : CS c w) :
    Calls Tryz.prog 87 #[.pointer (some ⟨c.C, 0, none⟩), .int .i64 k', .int .i64 k, .int .i64 i, .int .i64 j] w (IsRes c (kOf k) i j w) := by
  have hn := h.pos.2
  have HIS := Lib.hid hI
  have HR := Lib.hid hrow
  have h1 := hI k' i j w hk' (Nat.lt_of_lt_of_le (rank_same hrk) hN) (by omega) (by omega) h
  have H1 := Lib.hid h1
  clear hI h1 h hrow
  go_enter Tryz.func87, Tryz.ntmps87
  go_wp2_with fail
  refine H1.out.mono ?_
  rintro e w1 ⟨hc, hf, ⟨rfl, hno⟩ | ⟨b, t, rfl, hb, ht, hd⟩⟩
  · have HC1 := Lib.hid hc
    have HF1 := Lib.hid hf
    have HNO1 := Lib.hid hno
    clear hc hf hno
    go_wp2_with fail
    go_loopw [12] (fun pv wr => ∃ p : Nat, pv = .int .i64 p ∧ i + 1 ≤ p ∧ p ≤ j ∧ CS c wr ∧ Fr (· = c.M) w wr ∧ (∀ q, i < q → q < p → (Bags.wd c.ws q).is 5 [Bags.str ","] = true → Bags.Has c.ws (kOf k) i q → ¬ Bags.Has c.ws (kOf k') (q + 1) j)) (fun pv _ => j - (intOf pv).toNat)
    case atStart => exact ⟨i + 1, by simp, Nat.le_refl _, hij, HC1.out, HF1.out, fun q h1 h2 => absurd h2 (by omega)⟩
    case round =>
      rename_i wr
      obtain ⟨p, rfl, hp1, hp2, hc, hf, hall⟩ := hrel
      have HC := Lib.hid hc
      have HF := Lib.hid hf
      have HALL := Lib.hid hall
      by_cases hlt : p < j
      · have hlt' : (p : Int) < (j : Int) := by omega
        have hS := sign_any c wr hc p ⟨#[44]⟩
        rw [← str_comma] at hS
        unfold ptr at hS
        have HSTEP := Lib.hid (fun (h : (Bags.wd c.ws p).is 5 [Bags.str ","] = true → Bags.Has c.ws (kOf k) i p → ¬ Bags.Has c.ws (kOf k') (p + 1) j) => show ∀ q, i < q → q < p + 1 → (Bags.wd c.ws q).is 5 [Bags.str ","] = true → Bags.Has c.ws (kOf k) i q → ¬ Bags.Has c.ws (kOf k') (q + 1) j from fun q h1 h2 => by
          rcases Nat.lt_or_ge q p with h3 | h3
          · exact HALL.out q h1 h3
          · obtain rfl : q = p := by omega
            exact h)
        generalize hB : (Bags.wd c.ws p).is 5 [Bags.str ","] = B at hS
        have HB := Lib.hid hB
        have HS := Lib.hid hS
        clear hc hf hall hS hB
        cases B
        · go_wp2_with fail
          refine HS.out.mono ?_
          rintro e w2 ⟨rfl, rfl⟩
          go_wp2_with fail
          exact ⟨⟨p + 1, by simp, by omega, by omega, HC.out, HF.out, HSTEP.out (fun h => by rw [HB.out] at h; cases h)⟩, by simp [intOf]; omega⟩
        · have HIS1 := Lib.hid (fun W => HIS.out k i p W hk (Nat.lt_of_lt_of_le (rank_lt (k := k) (i := i) (j := j) (by omega)) hN) (by omega) (by omega))
          have hIS2 := fun W => HIS.out k' (p + 1) j W hk' (Nat.lt_of_lt_of_le (rank_lt (k := k) (i := i) (j := j) (by omega)) hN) (by omega) (by omega)
          rw [show ((p + 1 : Nat) : Int) = (p : Int) + 1 by omega] at hIS2
          have HIS2 := Lib.hid hIS2
          clear hIS2
          go_wp2_with fail
          refine HS.out.mono ?_
          rintro e w2 ⟨rfl, rfl⟩
          go_wp2_with fail
          refine (HIS1.out _ HC.out).mono ?_
          rintro e w4 ⟨hc4, hf4, h4⟩
          have HC4 := Lib.hid hc4
          have HF4 := Lib.hid (HF.out.trans hf4 (fun _ _ h => h))
          clear hc4 hf4
          rcases h4 with ⟨rfl, hno4⟩ | ⟨ba, ta, rfl, hba, hta, hda⟩
          · go_wp2_with fail
            refine (HIS2.out _ HC4.out).mono ?_
            rintro e w5 ⟨hc5, hf5, h5⟩
            have HF5 := Lib.hid (HF4.out.trans hf5 (fun _ _ h => h))
            have HC5 := Lib.hid hc5
            clear hc5 hf5
            rcases h5 with ⟨rfl, hno5⟩ | ⟨bb, tb, rfl, hbb, htb, hdb⟩
            all_goals
              try clear hno5
              try clear htb hdb
              go_wp2_with fail
              exact ⟨⟨p + 1, by simp, by omega, by omega, HC5.out, HF5.out, HSTEP.out (fun _ h => absurd h hno4)⟩, by simp [intOf]; omega⟩
          · have HA := Lib.hid (And.intro hta hda)
            clear hta hda
            go_wp2_with fail
            refine (HIS2.out _ HC4.out).mono ?_
            rintro e w5 ⟨hc5, hf5, h5⟩
            have HF45 := Lib.hid hf5
            have HF5 := Lib.hid (HF4.out.trans hf5 (fun _ _ h => h))
            have HC5 := Lib.hid hc5
            clear hc5 hf5
            rcases h5 with ⟨rfl, hno5⟩ | ⟨bb, tb, rfl, hbb, htb, hdb⟩
            · go_wp2_with fail
              exact ⟨⟨p + 1, by simp, by omega, by omega, HC5.out, HF5.out, HSTEP.out (fun _ _ => hno5)⟩, by simp [intOf]; omega⟩
            · have hta5 := (HA.out.1).fr HF45.out HC.out.lt.2.2.1
              obtain ⟨ks, hks, htk, hnd⟩ := (row_tree HR.out _ _ _ _).1 hta5
              obtain ⟨bl, vl, hbl, _, hkv, hblk⟩ := hnd
              injection hbl with hbl
              subst hbl
              obtain ⟨hr1, hr2⟩ := row_is HR.out HA.out.2
              have hlen := htk.row hr1
              have hklen : ks.length ≤ 400 := by omega
              have hkpos : 0 < ks.length := List.length_pos_iff.2 hks
              obtain ⟨bav, capv, rfl, hcv1, hcv2, hcv3⟩ := own_form hkv
              obtain ⟨gv, rfl, _, _, _⟩ := hcv3 hkpos
              have d10 := hblk.cell 10
              unfold treeC at d10
              simp at d10
              unfold maxLen at hcv2
              have HKV := Lib.hid hkv
              have HTK := Lib.hid (And.intro htk (And.intro hr1 hks))
              have HB5 := Lib.hid (And.intro htb hdb)
              clear hta5 htk hblk hkv htb hdb hlen hr1 hr2 hks hcv3
              go_upto_region 13 with (at_builtin; refine wpList_append_nil rfl _ _ rfl elem_trees rfl rfl HKV.out (by simp [ptr, Value.oneCell']) (by unfold maxLen; omega) (by omega) ?_; intro v6 w6 hown6 hb6; obtain ⟨b6, p6, rfl⟩ := own_slice hown6; have HO6 := Lib.hid (And.intro hown6 hb6); clear hown6 hb6)
              have hz6 := HO6.out.2.size
              go_wp2_with (at_builtin; refine wpList_append_one rfl _ _ rfl (base := w5.heap.size) elem_trees rfl HO6.out.1 (cs := #[.pointer (some ⟨bb, 0, none⟩)]) rfl rfl rfl (by simp [Value.oneCell']) (by unfold maxLen; omega) (by omega) hz6 ?_; intro v7 w7 hown7 hb7 _ hz7; obtain ⟨b7, p7, rfl⟩ := own_slice hown7; have HO7 := Lib.hid (And.intro hown7 (HO6.out.2.trans hb7)); clear hown7 hb7)
              go_ret
              have hcc := HC5.out.below HO7.out.2
              have hff : Fr (· = c.M) w5 w7 := Fr.of_below HO7.out.2
              have hkk : kidsV w7 c.B (.slice b7 (ks.length + 1) p7) (ks ++ [bb]) := by
                have := own_base HO7.out.1 HC5.out.size
                unfold kidsV
                simpa [ptr] using this
              exact IsRes.kids hcc (HF5.out.trans hff (fun _ _ h => h)) hkk (t := ta.snoc tb) (kd := Bags.str "row") (sg := []) (txt := []) (of_ := []) (as_ := []) (nm := 0) (st := false) (nt := false) (al := false) rfl
                (fun w2 h2 hf2 => (row_tree HR.out _ _ _ _).2 ⟨ks ++ [bb], by simp, tr.snoc (((row_part HR.out HB5.out.1).fr hff HC.out.lt.2.2.1).fr hf2 HC.out.lt.2.2.1) ((HTK.out.1.fr hff HC.out.lt.2.2.1).fr hf2 HC.out.lt.2.2.1) HTK.out.2.1, h2⟩)
                (Bags.Der.row2 HR.out HB.out HA.out.2 HB5.out.2)
      · have hlt' : ¬ (p : Int) < (j : Int) := by omega
        clear hc hf hall
        go_wp2_with fail
        go_ret
        exact .no HC.out HF.out (fun h => by
          rcases h.row HR.out with h | ⟨q, h1, h2, h3, h4, h5⟩
          · exact HNO1.out h
          · exact HALL.out q h1 (by omega) h3 h4 h5)
  · have HX := Lib.hid (And.intro hc (And.intro hf (And.intro ht hd)))
    clear hc hf ht hd
    go_wp2_with fail
    go_ret
    exact IsRes.one HX.out.1 HX.out.2.1 (t := .cons t .none) (kd := Bags.str "row") (sg := []) (txt := []) (of_ := []) (as_ := []) (nm := 0) (st := false) (nt := false) (al := false) rfl
      (fun w2 h2 hf2 => (row_tree HR.out _ _ _ _).2 ⟨[b], by simp, ⟨[b], [], rfl, (row_part HR.out HX.out.2.2.1).fr hf2 HX.out.1.lt.2.2.1, rfl⟩, h2⟩) (HX.out.2.2.2.row1 HR.out)
end Go.Proofs.YtoephflcjllaaaaGreatDoor
