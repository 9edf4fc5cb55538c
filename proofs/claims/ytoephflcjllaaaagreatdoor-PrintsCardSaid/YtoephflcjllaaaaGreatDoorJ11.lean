/- The print methods of the program: every tree in memory prints as it is printed. -/
import Derived.Test.YtoephflcjllaaaaGreatDoorJ10
import Derived.Test.YtoephflcjllaaaaGreatDoorJ01
namespace Bags
theorem s_neg : str "(-" = [40, 45] := by decide
theorem s_close : str ")" = [41] := by decide
theorem s_open : str "(" = [40] := by decide
theorem s_blank : str " " = [32] := by decide
theorem s_not : str "(not " = [40, 110, 111, 116, 32] := by decide
theorem s_exists : str "exists (" = [101, 120, 105, 115, 116, 115, 32, 40] := by decide
theorem s_is : str " is " = [32, 105, 115, 32] := by decide
theorem s_null : str "null" = [110, 117, 108, 108] := by decide
theorem s_notb : str "not " = [110, 111, 116, 32] := by decide
theorem s_in : str "in (" = [105, 110, 32, 40] := by decide
theorem s_bopen : str " (" = [32, 40] := by decide
theorem s_star : str "(*)" = [40, 42, 41] := by decide
theorem s_all : str " all" = [32, 97, 108, 108] := by decide
theorem s_comma : str ", " = [44, 32] := by decide
theorem s_select : str "select " = [115, 101, 108, 101, 99, 116, 32] := by decide
theorem s_distinct : str "distinct " = [100, 105, 115, 116, 105, 110, 99, 116, 32] := by decide
theorem s_one : str "*" = [42] := by decide
theorem s_from : str " from " = [32, 102, 114, 111, 109, 32] := by decide
theorem s_where : str " where " = [32, 119, 104, 101, 114, 101, 32] := by decide
theorem s_group : str " group by " = [32, 103, 114, 111, 117, 112, 32, 98, 121, 32] := by decide
theorem s_having : str " having " = [32, 104, 97, 118, 105, 110, 103, 32] := by decide
theorem print_cons1 (a : T) : (T.cons a .none).print = a.print := by simp only [T.print]
theorem print_cons2 (a b : T) (hb : b ≠ .none) : (T.cons a b).print = a.print ++ [44, 32] ++ b.print := by
  cases b <;> first | exact absurd rfl hb | simp only [T.print, s_comma]
theorem len2 {α β : Type} (f g : α → β) : ∀ l : List α, (l.flatMap fun q => [f q, g q]).length = l.length * 2
  | [] => rfl
  | a :: l => by rw [List.flatMap_cons, List.length_append, len2 f g l, List.length_cons, List.length_cons, List.length_cons, List.length_nil]; omega
theorem len1 {α β : Type} (f : α → β) : ∀ l : List α, (l.flatMap fun q => [f q]).length = l.length * 1
  | [] => rfl
  | a :: l => by rw [List.flatMap_cons, List.length_append, len1 f l, List.length_cons, List.length_cons, List.length_nil]; omega
theorem joinC_cons (a : Str) (l : List Str) : joinC (a :: l) = if l = [] then a else a ++ [44, 32] ++ joinC l := by
  cases l with
  | nil => rfl
  | cons b l => rw [if_neg (by simp)]; rfl
end Bags
namespace Go.Proofs.YtoephflcjllaaaaGreatDoor
open Go.RowKit

/-- The items of a selection, each printed. -/
def ItemsP (w : World) (ps : List (TypeId × Value × Bags.Str)) (ss : List Bags.Str) : Prop :=
  ∀ (k : Nat) (h : k < ps.length) (h' : k < ss.length) (W : World), Fr (fun _ => False) w W → Calls Tryz.prog 203 #[.agg #[.iface ps[k].1 ps[k].2.1, .string (tx ps[k].2.2)]] W (PPost W ss[k])
def SourcesP (w : World) (ps : List (Bags.Str × Bags.Str)) (ss : List Bags.Str) : Prop :=
  ∀ (k : Nat) (h : k < ps.length) (h' : k < ss.length) (W : World), Fr (fun _ => False) w W → Calls Tryz.prog 206 #[.agg #[.string (tx ps[k].1), .string (tx ps[k].2)]] W (PPost W ss[k])
def ColsP (w : World) (ps : List Nat) (ss : List Bags.Str) : Prop :=
  ∀ (k : Nat) (h : k < ps.length) (h' : k < ss.length) (W : World), Fr (fun _ => False) w W → Calls Tryz.prog 208 #[.pointer (some ⟨ps[k], 0, none⟩)] W (PPost W ss[k])

/-- What is said of a tree. -/
structure Pr (w : World) (P : Nat → Prop) (t : Bags.T) : Prop where
  part : Bags.Good t 0 → ∀ x, rep0 w P t [x] → Prn w x t.print
  item : Bags.Good t 4 → ∀ l, rep0 w P t l → ∃ tp v a, l = [.iface tp v, .string (tx a)] ∧ ∀ W, Fr (fun _ => False) w W → Calls Tryz.prog 203 #[.agg #[.iface tp v, .string (tx a)]] W (PPost W t.print)
  items : Bags.Good t 1 → ∀ l, rep0 w P t l → ∃ (ps : List (TypeId × Value × Bags.Str)) (ss : List Bags.Str), l = (ps.flatMap fun q => [.iface q.1 q.2.1, .string (tx q.2.2)]) ∧ ss.length = ps.length ∧ ItemsP w ps ss ∧ Bags.joinC ss = t.print ∧ (ss.map fun a => a.length + 2).sum ≤ Bags.sz t ∧ (ss = [] ↔ t = .none)
  sources : Bags.Good t 2 → ∀ l, rep0 w P t l → ∃ (ps : List (Bags.Str × Bags.Str)) (ss : List Bags.Str), l = (ps.flatMap fun q => [.string (tx q.1), .string (tx q.2)]) ∧ ss.length = ps.length ∧ SourcesP w ps ss ∧ Bags.joinC ss = t.print ∧ (ss.map fun a => a.length + 2).sum ≤ Bags.sz t ∧ (ss = [] ↔ t = .none)
  cols : Bags.Good t 3 → ∀ l, repCols w P t l → ∃ (ps : List Nat) (ss : List Bags.Str), l = (ps.flatMap fun q => [.pointer (some ⟨q, 0, none⟩)]) ∧ ss.length = ps.length ∧ ColsP w ps ss ∧ Bags.joinC ss = t.print ∧ (ss.map fun a => a.length + 2).sum ≤ Bags.sz t ∧ (ss = [] ↔ t = .none)

theorem Pr.only {w : World} {P : Nat → Prop} {t : Bags.T} (h : Bags.Good t 0 → ∀ x, rep0 w P t [x] → Prn w x t.print) (h1 : ∀ k, Bags.Good t k → k = 0) : Pr w P t :=
  ⟨h, fun g => absurd (h1 _ g) (by decide), fun g => absurd (h1 _ g) (by decide), fun g => absurd (h1 _ g) (by decide), fun g => absurd (h1 _ g) (by decide)⟩

theorem same_row {w : World} {e : TypeId} {v : Value} {n m : Nat} {l : List Value} (size : Nat) (hs : 0 < size) (h : w.ownsRow 0 e size v n l) (hl : l.length = m * size) : n = m := by
  have := h.1
  rw [hl] at this
  exact (Nat.eq_of_mul_eq_mul_right hs this).symm

theorem Prn.sel {w : World} {P : Nat → Prop} {d : Bool} {it f wh g h : Bags.T} (hit : Pr w P it) (hf : Pr w P f) (hwh : Pr w P wh) (hg : Pr w P g) (hh : Pr w P h)
    (hgood : Bags.Good (.sel d it f wh g h) 0) (hs : Bags.sz (.sel d it f wh g h) ≤ 1099511627) {y : Value} (hr : rep0 w P (.sel d it f wh g h) [y]) : Prn w y (Bags.T.sel d it f wh g h).print := by
  obtain ⟨vi, ni, ci, vf, nf, cf, xw, vg, ng, cg, xh, h1, o1, h2, h3, o3, h4, h5, h6, o6, h7, h8, b, _, h9, h10⟩ := hr
  obtain ⟨_, g1, g2, g3, g4, g5⟩ := hgood
  injection h9 with h9 _
  obtain ⟨pi, si, rfl, li, ii, ji, ui, ei⟩ := hit.items g1 _ h2
  obtain ⟨pf, sf, rfl, lf, if_, jf, uf, ef⟩ := hf.sources g2 _ h4
  obtain ⟨pg, sg, rfl, lg, ig, jg, ug, eg⟩ := hg.cols g4 _ h7
  obtain rfl := same_row 2 (by decide) h1 (m := pi.length) (Bags.len2 _ _ _)
  obtain rfl := same_row 2 (by decide) h3 (m := pf.length) (Bags.len2 _ _ _)
  obtain rfl := same_row 1 (by decide) h6 (m := pg.length) (Bags.len1 _ _)
  obtain ⟨bi, cni, rfl⟩ : ∃ base cap, vi = .slice base pi.length cap := by
    obtain ⟨_, ⟨rfl, h2⟩ | ⟨g, cap, cur, rfl, _⟩⟩ := h1
    · exact ⟨none, 0, by rw [h2]⟩
    · exact ⟨_, _, rfl⟩
  obtain ⟨bs, cns, rfl⟩ : ∃ base cap, vf = .slice base pf.length cap := by
    obtain ⟨_, ⟨rfl, h2⟩ | ⟨g, cap, cur, rfl, _⟩⟩ := h3
    · exact ⟨none, 0, by rw [h2]⟩
    · exact ⟨_, _, rfl⟩
  obtain ⟨bg, cng, rfl⟩ : ∃ base cap, vg = .slice base pg.length cap := by
    obtain ⟨_, ⟨rfl, h2⟩ | ⟨g, cap, cur, rfl, _⟩⟩ := h6
    · exact ⟨none, 0, by rw [h2]⟩
    · exact ⟨_, _, rfl⟩
  simp only [Bags.sz] at hs
  have li1 := Bags.print_len it _ g1
  have lf1 := Bags.print_len f _ g2
  have lg1 := Bags.print_len g _ g4
  have lw1 : wh.print.length ≤ Bags.sz wh := by
    rcases g3 with rfl | g3
    · exact Nat.zero_le _
    · exact Bags.print_len _ _ g3
  have lh1 : h.print.length ≤ Bags.sz h := by
    rcases g5 with rfl | g5
    · exact Nat.zero_le _
    · exact Bags.print_len _ _ g5
  have none_rep : ∀ {x : Value}, ¬ rep0 w P .none [x] := fun {x} h => by simp [rep0] at h
  have hw : optP w xw [32, 119, 104, 101, 114, 101, 32] wh.print (Bags.optT (Bags.str " where ") wh) := by
    rcases h5 with ⟨rfl, rfl⟩ | h5
    · exact .inl ⟨rfl, rfl⟩
    · have hn : wh ≠ .none := fun e => none_rep (e ▸ h5)
      refine .inr ⟨hwh.part (g3.resolve_left hn) _ h5, ?_⟩
      unfold Bags.optT
      split
      · exact absurd rfl hn
      · rw [Bags.s_where]
  have hh' : optP w xh [32, 104, 97, 118, 105, 110, 103, 32] h.print (Bags.optT (Bags.str " having ") h) := by
    rcases h8 with ⟨rfl, rfl⟩ | h8
    · exact .inl ⟨rfl, rfl⟩
    · have hn : h ≠ .none := fun e => none_rep (e ▸ h8)
      refine .inr ⟨hh.part (g5.resolve_left hn) _ h8, ?_⟩
      unfold Bags.optT
      split
      · exact absurd rfl hn
      · rw [Bags.s_having]
  have hI : ∀ W, Fr (fun _ => False) w W → Calls Tryz.prog 202 #[.slice bi pi.length cni, .func (.func 203) #[] #[]] W (PPost W it.print) := fun W hF => by
    rw [← ji]
    exact listI_any (ownsRow_fr0 h1 o1 hF (fun _ h => h.elim)) li (fun k a b W' hF' => ii k a b W' (hF.trans hF' fun _ _ h => h)) (by omega)
  have hS : ∀ W, Fr (fun _ => False) w W → Calls Tryz.prog 205 #[.slice bs pf.length cns, .func (.func 206) #[] #[]] W (PPost W f.print) := fun W hF => by
    rw [← jf]
    exact listS_any (ownsRow_fr0 h3 o3 hF (fun _ h => h.elim)) lf (fun k a b W' hF' => if_ k a b W' (hF.trans hF' fun _ _ h => h)) (by omega)
  have hG : ∀ W, Fr (fun _ => False) w W → Calls Tryz.prog 207 #[.slice bg pg.length cng, .func (.func 208) #[] #[]] W (PPost W g.print) := fun W hF => by
    rw [← jg]
    exact listC_any (ownsRow_fr0 h6 o6 hF (fun _ h => h.elim)) lg (fun k a b W' hF' => ig k a b W' (hF.trans hF' fun _ _ h => h)) (by omega)
  have hE : (Bags.T.sel d it f wh g h).print = [115, 101, 108, 101, 99, 116, 32] ++ (if d then [100, 105, 115, 116, 105, 110, 99, 116, 32] else []) ++ (if pi.length = 0 then [42] else []) ++ (it.print ++ [32, 102, 114, 111, 109, 32] ++ f.print) ++ Bags.optT (Bags.str " where ") wh ++
        (if pg.length = 0 then [] else [32, 103, 114, 111, 117, 112, 32, 98, 121, 32] ++ g.print) ++ Bags.optT (Bags.str " having ") h := by
    rw [Bags.print_sel, Bags.s_select, Bags.s_distinct, Bags.s_from]
    have e1 : Bags.starT it = (if pi.length = 0 then [42] else []) ++ it.print := by
      by_cases hn : it = .none
      · have : pi.length = 0 := by rw [← li, ei.2 hn]; rfl
        rw [if_pos this, hn]; simp only [Bags.starT, Bags.s_one, Bags.T.print]; rfl
      · have : pi.length ≠ 0 := by
          intro h0
          rw [← li] at h0
          exact hn (ei.1 (List.eq_nil_of_length_eq_zero h0))
        rw [if_neg this]
        unfold Bags.starT
        split
        · exact absurd rfl hn
        · rfl
    have e2 : Bags.optT (Bags.str " group by ") g = (if pg.length = 0 then [] else [32, 103, 114, 111, 117, 112, 32, 98, 121, 32] ++ g.print) := by
      by_cases hn : g = .none
      · have : pg.length = 0 := by rw [← lg, eg.2 hn]; rfl
        rw [if_pos this, hn]; rfl
      · have : pg.length ≠ 0 := by
          intro h0
          rw [← lg] at h0
          exact hn (eg.1 (List.eq_nil_of_length_eq_zero h0))
        rw [if_neg this]
        unfold Bags.optT
        split
        · exact absurd rfl hn
        · rw [Bags.s_group]
    rw [e1, e2]
    simp only [List.append_assoc]
  rw [hE]
  exact ⟨_, _, _, _, h9, n_selection _, p_selection _, i_selection, fun W hF => sel_any (h10.fr hF (fun h => h))
    (fun W' hF' => hI W' (hF.trans hF' fun _ _ h => h)) (fun W' hF' => hS W' (hF.trans hF' fun _ _ h => h)) (fun W' hF' => hG W' (hF.trans hF' fun _ _ h => h))
    (hw.imp id fun hw => ⟨hw.1.fr hF, hw.2⟩) (hh'.imp id fun hw => ⟨hw.1.fr hF, hw.2⟩) (by omega)⟩

theorem prn_all {w : World} {P : Nat → Prop} (ht : Tab w) : ∀ t : Bags.T, Bags.sz t ≤ 1099511627 → Pr w P t := by
  intro t
  induction t with
  | none =>
    intro _
    refine ⟨fun h => by simp [Bags.Good] at h, fun h => by simp [Bags.Good] at h, fun _ l h => ⟨[], [], h, rfl, fun k h => absurd h (by simp), rfl, by simp, by simp⟩,
      fun _ l h => ⟨[], [], h, rfl, fun k h => absurd h (by simp), rfl, by simp, by simp⟩, fun _ l h => ⟨[], [], h, rfl, fun k h => absurd h (by simp), rfl, by simp, by simp⟩⟩
  | num n => intro _; exact Pr.only (fun g x h => Prn.num h g.2.1 g.2.2 ht) fun k g => g.1
  | text s => intro hs; exact Pr.only (fun g x h => Prn.text h (by simp only [Bags.sz] at hs; omega)) fun k g => g
  | null => intro _; exact Pr.only (fun g x h => Prn.null h) fun k g => g
  | col o n =>
    intro hs
    simp only [Bags.sz] at hs
    exact ⟨fun g x h => Prn.col h (by omega), fun g => by simp [Bags.Good] at g, fun g => by simp [Bags.Good] at g, fun g => by simp [Bags.Good] at g, fun g => by simp [Bags.Good] at g⟩
  | neg a ih =>
    intro hs
    simp only [Bags.sz] at hs
    refine Pr.only (fun g y h => ?_) fun k g => g.1
    obtain ⟨x, h1, h2⟩ := h
    have la := Bags.print_len a 0 g.2
    have := Prn.neg h2 ((ih (by omega)).part g.2 _ h1) (by omega)
    rwa [show (Bags.T.neg a).print = [40, 45] ++ a.print ++ [41] from by simp only [Bags.T.print, Bags.s_neg, Bags.s_close]]
  | not a ih =>
    intro hs
    simp only [Bags.sz] at hs
    refine Pr.only (fun g y h => ?_) fun k g => g.1
    obtain ⟨x, h1, h2⟩ := h
    have la := Bags.print_len a 0 g.2
    have := Prn.inv h2 ((ih (by omega)).part g.2 _ h1) (by omega)
    rwa [show (Bags.T.not a).print = [40, 110, 111, 116, 32] ++ a.print ++ [41] from by simp only [Bags.T.print, Bags.s_not, Bags.s_close]]
  | exist a ih =>
    intro hs
    simp only [Bags.sz] at hs
    refine Pr.only (fun g y h => ?_) fun k g => g.1
    obtain ⟨x, h1, h2⟩ := h
    have la := Bags.print_len a 0 g.2
    have := Prn.exi h2 ((ih (by omega)).part g.2 _ h1) (by omega)
    rwa [show (Bags.T.exist a).print = [101, 120, 105, 115, 116, 115, 32, 40] ++ a.print ++ [41] from by simp only [Bags.T.print, Bags.s_exists, Bags.s_close]]
  | isnull a n ih =>
    intro hs
    simp only [Bags.sz] at hs
    refine Pr.only (fun g y h => ?_) fun k g => g.1
    obtain ⟨x, h1, h2⟩ := h
    have la := Bags.print_len a 0 g.2
    have := Prn.isnull h2 ((ih (by omega)).part g.2 _ h1) (by omega)
    rwa [show (Bags.T.isnull a n).print = a.print ++ [32, 105, 115, 32] ++ (wd n) ++ [110, 117, 108, 108] from by simp only [Bags.T.print, Bags.s_is, Bags.s_null, Bags.s_notb, wd]]
  | bin s a b iha ihb =>
    intro hs
    simp only [Bags.sz] at hs
    refine Pr.only (fun g y h => ?_) fun k g => g.1
    obtain ⟨x1, x2, h1, h2, h3⟩ := h
    have la := Bags.print_len a 0 g.2.1
    have lb := Bags.print_len b 0 g.2.2
    have := Prn.twoE h3 ((iha (by omega)).part g.2.1 _ h1) ((ihb (by omega)).part g.2.2 _ h2) (by omega)
    rwa [show (Bags.T.bin s a b).print = [40] ++ a.print ++ [32] ++ s ++ [32] ++ b.print ++ [41] from by simp only [Bags.T.print, Bags.s_open, Bags.s_blank, Bags.s_close]]
  | junct s a b iha ihb =>
    intro hs
    simp only [Bags.sz] at hs
    refine Pr.only (fun g y h => ?_) fun k g => g.1
    obtain ⟨x1, x2, h1, h2, h3⟩ := h
    have la := Bags.print_len a 0 g.2.1
    have lb := Bags.print_len b 0 g.2.2
    have := Prn.twoC h3 ((iha (by omega)).part g.2.1 _ h1) ((ihb (by omega)).part g.2.2 _ h2) (by omega)
    rwa [show (Bags.T.junct s a b).print = [40] ++ a.print ++ [32] ++ s ++ [32] ++ b.print ++ [41] from by simp only [Bags.T.print, Bags.s_open, Bags.s_blank, Bags.s_close]]
  | cmp s a b iha ihb =>
    intro hs
    simp only [Bags.sz] at hs
    refine Pr.only (fun g y h => ?_) fun k g => g.1
    obtain ⟨x1, x2, h1, h2, h3⟩ := h
    have la := Bags.print_len a 0 g.2.1
    have lb := Bags.print_len b 0 g.2.2
    have := Prn.cmp h3 ((iha (by omega)).part g.2.1 _ h1) ((ihb (by omega)).part g.2.2 _ h2) (by omega)
    rwa [show (Bags.T.cmp s a b).print = a.print ++ [32] ++ s ++ [32] ++ b.print from by simp only [Bags.T.print, Bags.s_blank]]
  | isin a n b iha ihb =>
    intro hs
    simp only [Bags.sz] at hs
    refine Pr.only (fun g y h => ?_) fun k g => g.1
    obtain ⟨x1, x2, h1, h2, h3⟩ := h
    have la := Bags.print_len a 0 g.2.1
    have lb := Bags.print_len b 0 g.2.2
    have := Prn.isin h3 ((iha (by omega)).part g.2.1 _ h1) ((ihb (by omega)).part g.2.2 _ h2) (by omega)
    rwa [show (Bags.T.isin a n b).print = a.print ++ [32] ++ (wd n) ++ [105, 110, 32, 40] ++ b.print ++ [41] from by simp only [Bags.T.print, Bags.s_in, Bags.s_blank, Bags.s_close, Bags.s_notb, wd]]
  | quant s how a b iha ihb =>
    intro hs
    simp only [Bags.sz] at hs
    refine Pr.only (fun g y h => ?_) fun k g => g.1
    obtain ⟨x1, x2, h1, h2, h3⟩ := h
    have la := Bags.print_len a 0 g.2.1
    have lb := Bags.print_len b 0 g.2.2
    have := Prn.quant h3 ((iha (by omega)).part g.2.1 _ h1) ((ihb (by omega)).part g.2.2 _ h2) (by omega)
    rwa [show (Bags.T.quant s how a b).print = a.print ++ [32] ++ s ++ [32] ++ how ++ [32, 40] ++ b.print ++ [41] from by simp only [Bags.T.print, Bags.s_blank, Bags.s_bopen, Bags.s_close]]
  | comb s all a b iha ihb =>
    intro hs
    simp only [Bags.sz] at hs
    refine Pr.only (fun g y h => ?_) fun k g => g.1
    obtain ⟨x1, x2, h1, h2, h3⟩ := h
    have la := Bags.print_len a 0 g.2.1
    have lb := Bags.print_len b 0 g.2.2
    have hl : (str2 s all).length ≤ s.length + 4 := by cases all <;> simp [str2, Bags.s_all]
    have := Prn.twoQ h3 ((iha (by omega)).part g.2.1 _ h1) ((ihb (by omega)).part g.2.2 _ h2) (by omega)
    rwa [show (Bags.T.comb s all a b).print = [40] ++ a.print ++ [32] ++ str2 s all ++ [32] ++ b.print ++ [41] from by cases all <;> simp [Bags.T.print, str2, Bags.s_open, Bags.s_blank, Bags.s_close]]
  | agg fn a ih =>
    intro hs
    simp only [Bags.sz] at hs
    refine Pr.only (fun g y h => ?_) fun k g => g.1
    obtain ⟨x, h1, h2⟩ := h
    have none_rep : ∀ {x : Value}, ¬ rep0 w P .none [x] := fun {x} h => by simp [rep0] at h
    rcases h1 with ⟨rfl, rfl⟩ | h1
    · have := Prn.aggr0 h2 (by omega)
      rwa [show (Bags.T.agg fn .none).print = fn ++ [40, 42, 41] from by simp only [Bags.T.print, Bags.s_star]]
    · have hn : a ≠ .none := fun e => none_rep (e ▸ h1)
      have ga := g.2.resolve_left hn
      have la := Bags.print_len a 0 ga
      have := Prn.aggr h2 ((ih (by omega)).part ga _ h1) (by omega)
      have he : (Bags.T.agg fn a).print = fn ++ [40] ++ a.print ++ [41] := by
        cases a <;> first | exact absurd rfl hn | simp only [Bags.T.print, Bags.s_open, Bags.s_close]
      rwa [he]
  | item e s ih =>
    intro hs
    simp only [Bags.sz] at hs
    refine ⟨fun g => by simp [Bags.Good] at g, fun g l h => ?_, fun g => by simp [Bags.Good] at g, fun g => by simp [Bags.Good] at g, fun g => by simp [Bags.Good] at g⟩
    obtain ⟨x, rfl, h2⟩ := h
    have hp := (ih (by omega)).part g.2 _ h2
    have le := Bags.print_len e 0 g.2
    obtain ⟨tp, v, rfl⟩ := rep.iface1 h2
    exact ⟨tp, v, s, rfl, fun W hF => itemP_any (hp.fr hF) (by omega)⟩
  | src t s => intro hs; exact ⟨fun g => by simp [Bags.Good] at g, fun g => by simp [Bags.Good] at g, fun g => by simp [Bags.Good] at g, fun g => by simp [Bags.Good] at g, fun g => by simp [Bags.Good] at g⟩
  | sel d it f wh g h ih1 ih2 ih3 ih4 ih5 =>
    intro hs
    have hs' := hs
    simp only [Bags.sz] at hs'
    exact Pr.only (fun gd y hr => Prn.sel (ih1 (by omega)) (ih2 (by omega)) (ih3 (by omega)) (ih4 (by omega)) (ih5 (by omega)) gd hs hr) fun k g => g.1
  | cons a b iha ihb =>
    intro hs
    simp only [Bags.sz] at hs
    have ia := iha (by omega)
    have ib := ihb (by omega)
    refine ⟨fun g => by simp [Bags.Good] at g, fun g => by simp [Bags.Good] at g, fun g l h => ?_, fun g l h => ?_, fun g l h => ?_⟩
    · obtain ⟨l1, l2, rfl, h1, h2⟩ := h
      obtain ⟨_, ga, gb⟩ | ⟨h, _⟩ | ⟨h, _⟩ := g
      · obtain ⟨tp, v, s, rfl, hc⟩ := ia.item ga _ h1
        obtain ⟨ps, ss, rfl, hl, hp, hj, hu, he⟩ := ib.items gb _ h2
        have la := Bags.print_len a _ ga
        refine ⟨(tp, v, s) :: ps, a.print :: ss, rfl, by simp [hl], ?_, ?_, ?_, by simp⟩
        · intro k h h' W hF
          cases k with
          | zero => exact hc W hF
          | succ k => exact hp k (by simpa using h) (by simpa using h') W hF
        · rw [Bags.joinC_cons, hj]
          by_cases hb : b = .none
          · subst hb; rw [if_pos (he.2 rfl), Bags.print_cons1]
          · rw [if_neg (fun e => hb (he.1 e)), Bags.print_cons2 _ _ hb]
        · simp only [List.map_cons, List.sum_cons, Bags.sz]; omega
      · omega
      · omega
    · obtain ⟨l1, l2, rfl, h1, h2⟩ := h
      obtain ⟨h, _⟩ | ⟨_, ga, gb⟩ | ⟨h, _⟩ := g
      · omega
      · obtain ⟨ps, ss, rfl, hl, hp, hj, hu, he⟩ := ib.sources gb _ h2
        have la := Bags.print_len a _ ga
        cases a with
        | src t s =>
          obtain rfl : l1 = [.string (tx t), .string (tx s)] := h1
          refine ⟨(t, s) :: ps, Bags.named t s :: ss, rfl, by simp [hl], ?_, ?_, ?_, by simp⟩
          · intro k h h' W hF
            cases k with
            | zero => exact sourceP_any (s := t) (a := s) (by simp only [Bags.sz] at hs; omega)
            | succ k => exact hp k (by simpa using h) (by simpa using h') W hF
          · rw [Bags.joinC_cons, hj]
            by_cases hb : b = .none
            · subst hb; rw [if_pos (he.2 rfl), Bags.print_cons1]; rfl
            · rw [if_neg (fun e => hb (he.1 e)), Bags.print_cons2 _ _ hb]; rfl
          · have := Bags.named_len t s
            simp only [List.map_cons, List.sum_cons, Bags.sz]; omega
        | _ => simp [Bags.Good] at ga
      · omega
    · obtain ⟨h, _⟩ | ⟨h, _⟩ | ⟨_, ga, gb⟩ := g
      · omega
      · omega
      · have la := Bags.print_len a _ ga
        cases a with
        | col o n =>
          obtain ⟨bk, l', _, rfl, h3, h4⟩ := h
          obtain ⟨ps, ss, rfl, hl, hp, hj, hu, he⟩ := ib.cols gb _ h4
          refine ⟨bk :: ps, (Bags.T.col o n).print :: ss, rfl, by simp [hl], ?_, ?_, ?_, by simp⟩
          · intro k h h' W hF
            cases k with
            | zero => exact columnP_any o n bk W (h3.fr hF (fun h => h)) (by simp only [Bags.sz] at hs; omega)
            | succ k => exact hp k (by simpa using h) (by simpa using h') W hF
          · rw [Bags.joinC_cons, hj]
            by_cases hb : b = .none
            · subst hb; rw [if_pos (he.2 rfl), Bags.print_cons1]
            · rw [if_neg (fun e => hb (he.1 e)), Bags.print_cons2 _ _ hb]
          · have la' : (Bags.T.col o n).print.length ≤ Bags.sz (.col o n) := la
            simp only [List.map_cons, List.sum_cons, Bags.sz] at la' ⊢; omega
        | _ => simp [Bags.Good] at ga

/-- A query that was read prints as it is printed. -/
theorem query_prints {w : World} {P : Nat → Prop} (ht : Tab w) {t : Bags.T} (hg : Bags.Good t 0) (hs : Bags.sz t ≤ 440000) {x : Value} (h : rep0 w P t [x]) : Prn w x t.print :=
  (prn_all ht t (by omega)).part hg x h
end Go.Proofs.YtoephflcjllaaaaGreatDoor
