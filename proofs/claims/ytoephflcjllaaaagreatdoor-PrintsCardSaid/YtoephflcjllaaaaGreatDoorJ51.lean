/- The words that stand in a tree. A plain text. -/
import Derived.Test.YtoephflcjllaaaaGreatDoorJ01
import Derived.Test.YtoephflcjllaaaaGreatDoorJ49
import Derived.Test.YtoephflcjllaaaaGreatDoorJ50
import Derived.Test.YtoephflcjllaaaaGreatDoorJ11
import Derived.Test.YtoephflcjllaaaaGreatDoorJ41
import Derived.Test.YtoephflcjllaaaaGreatDoorJ40
namespace Bags
/-- Signs and words of a tree are those of the language. -/
def Kd : T → Prop
  | .neg a => Kd a
  | .bin s a b => s ∈ adds ++ muls ∧ Kd a ∧ Kd b
  | .agg fn a => fn ∈ fns ∧ (a = .none → fn = str "count") ∧ Kd a
  | .junct s a b => s ∈ [str "and", str "or"] ∧ Kd a ∧ Kd b
  | .not a => Kd a
  | .exist a => Kd a
  | .isnull a _ => Kd a
  | .isin a _ b => Kd a ∧ Kd b
  | .cmp _ a b => Kd a ∧ Kd b
  | .quant _ how a b => how ∈ [str "any", str "all"] ∧ Kd a ∧ Kd b
  | .comb s _ a b => s ∈ setOps ∧ Kd a ∧ Kd b
  | .sel _ it f w g h => Kd it ∧ Kd f ∧ Kd w ∧ Kd g ∧ Kd h
  | .cons a b => Kd a ∧ Kd b
  | .item e _ => Kd e
  | _ => True
theorem Kd.snoc {x : T} (hx : Kd x) : ∀ {l : T}, Kd l → Kd (l.snoc x) := by
  intro l
  induction l with
  | cons a l _ ih => intro h; exact ⟨h.1, ih h.2⟩
  | _ => intro h; exact ⟨hx, trivial⟩
theorem snoc_ne (x : T) (l : T) : l.snoc x ≠ .none := by cases l <;> simp [T.snoc]
theorem kd_G {k : K} {ws : List W} {t : T} (h : G k ws t) : Kd t ∧ t ≠ .none := by
  induction h with
  | q1 _ ih | or1 _ ih | and1 _ ih | n1 _ ih | te1 _ ih | e1 _ ih | f8 _ ih => exact ih
  | c1 _ _ _ ih | b2 _ _ _ ih | f7 _ _ _ ih => exact ih
  | q2 _ hk _ iha ihb => exact ⟨⟨is_text hk, iha.1, ihb.1⟩, by simp⟩
  | q3 _ hk _ _ iha ihb => exact ⟨⟨is_text hk, iha.1, ihb.1⟩, by simp⟩
  | or2 _ hk _ iha ihb => exact ⟨⟨by have := is_text hk; simp at this ⊢; exact .inr this, iha.1, ihb.1⟩, by simp⟩
  | and2 _ hk _ iha ihb => exact ⟨⟨by have := is_text hk; simp at this ⊢; exact .inl this, iha.1, ihb.1⟩, by simp⟩
  | e2 _ hk _ iha ihb => exact ⟨⟨List.mem_append_left _ (is_text hk), iha.1, ihb.1⟩, by simp⟩
  | te2 _ hk _ iha ihb => exact ⟨⟨List.mem_append_right _ (is_text hk), iha.1, ihb.1⟩, by simp⟩
  | b8 _ _ _ iha ihb => exact ⟨⟨iha.1, ihb.1⟩, by simp⟩
  | b5 _ _ _ _ _ iha ihb => exact ⟨⟨iha.1, ihb.1⟩, by simp⟩
  | b6 _ _ _ _ _ _ iha ihb => exact ⟨⟨iha.1, ihb.1⟩, by simp⟩
  | b7 _ _ hh _ _ _ iha ihb => exact ⟨⟨is_text hh, iha.1, ihb.1⟩, by simp⟩
  | n2 _ _ ih | f1 _ _ ih | b1 _ _ _ _ ih | b3 _ _ _ ih | b4 _ _ _ _ ih => exact ⟨ih.1, by simp⟩
  | f5 h => exact ⟨⟨by rw [is_one h]; decide, fun _ => is_one h, trivial⟩, by simp⟩
  | f6 hk _ _ _ ih => exact ⟨⟨is_text hk, fun h => absurd h ih.2, ih.1⟩, by simp⟩
  | f2 | f3 | f4 | co1 | co2 | s1 | s2 => exact ⟨trivial, by simp⟩
  | i1 _ ih => exact ⟨ih.1, by simp⟩
  | i2 _ _ _ ih => exact ⟨ih.1, by simp⟩
  | is1 _ ih | ss1 _ ih | cs1 _ ih => exact ⟨⟨ih.1, trivial⟩, by simp⟩
  | is2 _ _ _ iha ihb | ss2 _ _ _ iha ihb | cs2 _ _ _ iha ihb => exact ⟨Kd.snoc ihb.1 iha.1, snoc_ne _ _⟩
  | t1 _ ih => exact ⟨⟨trivial, ih.1, trivial, trivial, trivial⟩, by simp⟩
  | a1 _ ih => exact ⟨⟨trivial, trivial, ih.1, trivial, trivial⟩, by simp⟩
  | g1 _ ih => exact ⟨⟨trivial, trivial, trivial, ih.1, trivial⟩, by simp⟩
  | g2 _ _ _ iha ihb => exact ⟨⟨trivial, trivial, trivial, iha.1, ihb.1⟩, by simp⟩
  | t2 _ _ _ iha ihb => obtain ⟨⟨_, _, b3, b4, b5⟩, _⟩ := ihb; exact ⟨⟨trivial, iha.1, b3, b4, b5⟩, by simp⟩
  | t3 _ _ _ _ iha ihb => obtain ⟨⟨_, _, b3, b4, b5⟩, _⟩ := ihb; exact ⟨⟨trivial, iha.1, trivial, b4, b5⟩, by simp⟩
  | a2 _ _ _ _ iha ihb => obtain ⟨⟨_, _, b3, b4, b5⟩, _⟩ := ihb; exact ⟨⟨trivial, trivial, iha.1, b4, b5⟩, by simp⟩
  | c2 _ _ _ _ iha ihb | c3 _ _ _ _ _ iha ihb => obtain ⟨⟨_, b2, b3, b4, b5⟩, _⟩ := ihb; exact ⟨⟨iha.1, b2, b3, b4, b5⟩, by simp⟩
  | c4 _ _ _ _ ih | c5 _ _ _ _ _ ih => obtain ⟨⟨_, b2, b3, b4, b5⟩, _⟩ := ih; exact ⟨⟨trivial, b2, b3, b4, b5⟩, by simp⟩
theorem kd_query {s : Str} {ws : List W} {t : T} (_hw : words s = .inr ws) (h : G .query ws t) : Kd t := (kd_G h).1
end Bags
/- The reference's printer: every tree prints as it is printed. -/
namespace Go.Proofs.YtoephflcjllaaaaGreatDoor
open Go.RowKit

set_option maxRecDepth 100000 in
set_option maxHeartbeats 4000000 in
theorem select_ref {b : Nat} {t : TypeId} {kd sg txt of_ as_ : Bags.Str} {nm : Int} {st nt al ds : Bool} {x1 x2 x3 x4 x5 : Value} {s : Bags.Str} {w : World}
    (hb : Blk w b t (treeC kd sg txt of_ as_ nm st nt al ds (.slice none 0 0) x1 x2 x3 x4 x5)) (hkd : kd = [115, 101, 108, 101, 99, 116])
    (hS : Calls Tryz.prog 26 #[.pointer (some ⟨b, 0, none⟩)] w (PPost w s)) :
    Calls Tryz.prog 10 #[.pointer (some ⟨b, 0, none⟩)] w (PPost w s) := by
  have HS := Lib.hid hS
  obtain ⟨c0, c1, c2, c3, c4, c5, c6, c7, c8, c10⟩ := keepT hb (Below.refl _ _)
  obtain ⟨K, hK⟩ : ∃ K, Hid (K = tx kd) := ⟨_, Lib.hid rfl⟩
  rw [← hK.out] at c0
  have hql := kd_is hK.out
  rw [hkd] at hql
  have q0 := (hql [110, 117, 109]).trans (by decide : _ = false)
  have q1 := (hql [116, 101, 120, 116]).trans (by decide : _ = false)
  have q2 := (hql [110, 117, 108, 108]).trans (by decide : _ = false)
  have q3 := (hql [99, 111, 108, 117, 109, 110]).trans (by decide : _ = false)
  have q4 := (hql [110, 101, 103]).trans (by decide : _ = false)
  have q5 := (hql [99, 111, 117, 110, 116]).trans (by decide : _ = false)
  have q6 := (hql [115, 117, 109]).trans (by decide : _ = false)
  have q7 := (hql [109, 105, 110]).trans (by decide : _ = false)
  have q8 := (hql [109, 97, 120]).trans (by decide : _ = false)
  have q9 := (hql [110, 111, 116]).trans (by decide : _ = false)
  have q10 := (hql [101, 120, 105, 115, 116, 115]).trans (by decide : _ = false)
  have q11 := (hql [105, 115, 110, 117, 108, 108]).trans (by decide : _ = false)
  have q12 := (hql [105, 110]).trans (by decide : _ = false)
  have q13 := (hql [97, 110, 121]).trans (by decide : _ = false)
  have q14 := (hql [97, 108, 108]).trans (by decide : _ = false)
  have q15 := (hql [99, 111, 109, 112, 97, 114, 101]).trans (by decide : _ = false)
  have q16 := (hql [105, 116, 101, 109]).trans (by decide : _ = false)
  have q17 := (hql [115, 111, 117, 114, 99, 101]).trans (by decide : _ = false)
  have q18 := (hql [115, 101, 108, 101, 99, 116]).trans (by decide : _ = true)
  clear hb hS hql hkd
  go_enter Tryz.func10, Tryz.ntmps10
  go_wp2_with fail
  go_loopw [3, 4] (fun _ iv wr => iv = .int .i64 0 ∧ w = wr) (fun _ _ _ => 0)
  case atStart => exact ⟨rfl, rfl⟩
  case round =>
    obtain ⟨rfl, rfl⟩ := hrel
    go_wp2_with (go_at_call 22; refine (not_ref _ _).mono ?_; rintro e w2 ⟨rfl, rfl⟩)
    refine HS.out.mono ?_
    rintro e w2 ⟨rfl, hF⟩
    go_wp2_with fail
    go_ret
    exact ⟨rfl, hF⟩

theorem RP.fr {w W : World} {b : Nat} {s : Bags.Str} (h : RP w b s) (hF : Fr (fun _ => False) w W) : RP W b s := fun W' hF' => h W' (hF.trans hF' fun _ _ h => h)
theorem rp0 {w : World} : ∀ (k : Nat) (_h : k < ([] : List Nat).length) (h' : k < ([] : List Bags.Str).length), RP w ([] : List Nat)[k] ([] : List Bags.Str)[k] := fun k h => absurd h (by simp)
theorem rp1 {w : World} {x : Nat} {a : Bags.Str} (hx : RP w x a) : ∀ (k : Nat) (_h : k < [x].length) (h' : k < [a].length), RP w [x][k] [a][k] := by
  intro k h h'
  have : k = 0 := by simpa using h
  subst this
  exact hx
theorem rp2 {w : World} {x y : Nat} {a b : Bags.Str} (hx : RP w x a) (hy : RP w y b) : ∀ (k : Nat) (_h : k < [x, y].length) (h' : k < [a, b].length), RP w [x, y][k] [a, b][k] := by
  intro k h h'
  have : k = 0 ∨ k = 1 := by simp at h; omega
  rcases this with rfl | rfl
  · exact hx
  · exact hy
section
variable {w : World} {B : Nat} {kd sg txt of_ as_ : Bags.Str} {nm : Int} {st nt al : Bool} {ks : List Nat} {ss : List Bags.Str} {s : Bags.Str} {b : Nat}
theorem NodeT.one {l : List Nat} (h : NodeT w B kd sg txt of_ as_ nm st nt al ks l) : ∃ b, l = [b] := by obtain ⟨b, _, h, _⟩ := h; exact ⟨b, h⟩
theorem NodeT.rpA (h : NodeT w B kd sg txt of_ as_ nm st nt al ks [b]) (hss : ss.length = ks.length) (hc : ∀ (k : Nat) (h : k < ks.length) (h' : k < ss.length), RP w ks[k] ss[k]) (hp : Bags.PKA kd sg txt of_ as_ nm st nt al ss s)
    (hl : kd.length + sg.length + txt.length + of_.length + as_.length + (ss.map fun a => a.length + 2).sum ≤ 1099511627776) : RP w b s := by
  obtain ⟨b', v, h1, _, h3, h4⟩ := h
  injection h1 with h1
  subst h1
  exact fun W hF => nodeA_ref (h4.fr hF fun h => h) (kids_fr h3 hF) hss (fun k a b => (hc k a b).fr hF) hp hl
theorem NodeT.rpB (h : NodeT w B kd sg txt of_ as_ nm st nt al ks [b]) (hss : ss.length = ks.length) (hc : ∀ (k : Nat) (h : k < ks.length) (h' : k < ss.length), RP w ks[k] ss[k]) (hp : Bags.PKB kd sg txt of_ as_ nm st nt al ss s)
    (hl : kd.length + sg.length + txt.length + of_.length + as_.length + (ss.map fun a => a.length + 2).sum ≤ 1099511627776) : RP w b s := by
  obtain ⟨b', v, h1, _, h3, h4⟩ := h
  injection h1 with h1
  subst h1
  exact fun W hF => nodeB_ref (h4.fr hF fun h => h) (kids_fr h3 hF) hss (fun k a b => (hc k a b).fr hF) hp hl
theorem NodeT.rpC (h : NodeT w B kd sg txt of_ as_ nm st nt al ks [b]) (hss : ss.length = ks.length) (hc : ∀ (k : Nat) (h : k < ks.length) (h' : k < ss.length), RP w ks[k] ss[k]) (hp : Bags.PKC kd sg txt of_ as_ nm st nt al ss s)
    (hl : kd.length + sg.length + txt.length + of_.length + as_.length + (ss.map fun a => a.length + 2).sum ≤ 1099511627776) : RP w b s := by
  obtain ⟨b', v, h1, _, h3, h4⟩ := h
  injection h1 with h1
  subst h1
  exact fun W hF => nodeC_ref (h4.fr hF fun h => h) (kids_fr h3 hF) hss (fun k a b => (hc k a b).fr hF) hp hl
end

theorem tr_none {w : World} {B b : Nat} : ¬ tr w B .none [b] := fun h => by simp [tr] at h
/-- What is said of a tree. -/
structure Rr (w : World) (B : Nat) (t : Bags.T) : Prop where
  part : ∀ k, Bags.Good t k → k = 0 ∨ 4 ≤ k → ∀ b, tr w B t [b] → RP w b t.print
  list : ∀ k, Bags.Good t k → k = 1 ∨ k = 2 ∨ k = 3 → ∀ ks, tr w B t ks → ∃ ss : List Bags.Str, ss.length = ks.length ∧ (∀ (k : Nat) (h : k < ks.length) (h' : k < ss.length), RP w ks[k] ss[k]) ∧ Bags.joinC ss = t.print ∧ (ss.map fun a => a.length + 2).sum ≤ Bags.sz t ∧ (ss = [] ↔ t = .none)
theorem Rr.only {w : World} {B : Nat} {t : Bags.T} (h : ∀ k, Bags.Good t k → ∀ b, tr w B t [b] → RP w b t.print) (h1 : ∀ k, Bags.Good t k → k = 0 ∨ 4 ≤ k) : Rr w B t :=
  ⟨fun k g _ => h k g, fun k g e => by have := h1 k g; omega⟩

theorem RP.sel {w : World} {B : Nat} {d : Bool} {it f wh g h : Bags.T} (hit : Rr w B it) (hf : Rr w B f) (hwh : Rr w B wh) (hg : Rr w B g) (hh : Rr w B h)
    (hgood : Bags.Good (.sel d it f wh g h) 0) (hs : Bags.sz (.sel d it f wh g h) ≤ 1099511627) {b : Nat} (hr : tr w B (.sel d it f wh g h) [b]) : RP w b (Bags.T.sel d it f wh g h).print := by
  obtain ⟨b', vi, pi, vf, pf, xw, vg, pg, xh, h1, h2, h3, h4, h5, h6, h7, h8, h9, h10, h11, h12⟩ := hr
  obtain ⟨_, g1, g2, g3, g4, g5⟩ := hgood
  injection h1 with h1
  subst h1
  obtain ⟨si, li, ii, ji, ui, ei⟩ := hit.list 1 g1 (.inl rfl) _ h3
  obtain ⟨sf, lf, if_, jf, uf, ef⟩ := hf.list 2 g2 (.inr (.inl rfl)) _ h5
  obtain ⟨sg, lg, ig, jg, ug, eg⟩ := hg.list 3 g4 (.inr (.inr rfl)) _ h8
  obtain ⟨bi, ci, rfl⟩ := kids_slice h4
  obtain ⟨bs_, cs, rfl⟩ := kids_slice h6
  obtain ⟨bg, cg, rfl⟩ := kids_slice h9
  simp only [Bags.sz] at hs
  have li1 := Bags.print_len it _ g1
  have lf1 := Bags.print_len f _ g2
  have lg1 := Bags.print_len g _ g4
  have lw1 : wh.print.length ≤ Bags.sz wh := by
    rcases g3 with rfl | g3
    · exact Nat.zero_le _
    · exact Bags.print_len _ _ g3
  have lh1 : h.print.length ≤ Bags.sz h := by
    rcases g5 with rfl | g5
    · exact Nat.zero_le _
    · exact Bags.print_len _ _ g5
  intro W hF
  have hw : optR W xw [32, 119, 104, 101, 114, 101, 32] wh.print (Bags.optT (Bags.str " where ") wh) := by
    rcases h7 with ⟨rfl, rfl⟩ | ⟨p, rfl, h7⟩
    · exact .inl ⟨rfl, rfl⟩
    · have hn : wh ≠ .none := fun e => tr_none (e ▸ h7)
      refine .inr ⟨p, rfl, (hwh.part 0 (g3.resolve_left hn) (.inl rfl) _ h7).fr hF, ?_⟩
      unfold Bags.optT
      split
      · exact absurd rfl hn
      · rw [Bags.s_where]
  have hh' : optR W xh [32, 104, 97, 118, 105, 110, 103, 32] h.print (Bags.optT (Bags.str " having ") h) := by
    rcases h10 with ⟨rfl, rfl⟩ | ⟨p, rfl, h10⟩
    · exact .inl ⟨rfl, rfl⟩
    · have hn : h ≠ .none := fun e => tr_none (e ▸ h10)
      refine .inr ⟨p, rfl, (hh.part 0 (g5.resolve_left hn) (.inl rfl) _ h10).fr hF, ?_⟩
      unfold Bags.optT
      split
      · exact absurd rfl hn
      · rw [Bags.s_having]
  have hE : (Bags.T.sel d it f wh g h).print = [115, 101, 108, 101, 99, 116, 32] ++ (if d then [100, 105, 115, 116, 105, 110, 99, 116, 32] else []) ++ (if decide (pi = []) then [42] else []) ++ it.print ++ [32, 102, 114, 111, 109, 32] ++ f.print ++ Bags.optT (Bags.str " where ") wh ++
        (if pg.length = 0 then [] else [32, 103, 114, 111, 117, 112, 32, 98, 121, 32] ++ g.print) ++ Bags.optT (Bags.str " having ") h := by
    rw [Bags.print_sel, Bags.s_select, Bags.s_distinct, Bags.s_from]
    have e1 : Bags.starT it = (if decide (pi = []) then [42] else []) ++ it.print := by
      by_cases hn : it = .none
      · have : pi = [] := List.eq_nil_of_length_eq_zero (by rw [← li, ei.2 hn]; rfl)
        rw [if_pos (by simpa using this), hn]; simp only [Bags.starT, Bags.s_one, Bags.T.print]; rfl
      · have : ¬ pi = [] := by
          intro h0
          rw [h0] at li
          exact hn (ei.1 (List.eq_nil_of_length_eq_zero li))
        rw [if_neg (by simpa using this)]
        unfold Bags.starT
        split
        · exact absurd rfl hn
        · rfl
    have e2 : Bags.optT (Bags.str " group by ") g = (if pg.length = 0 then [] else [32, 103, 114, 111, 117, 112, 32, 98, 121, 32] ++ g.print) := by
      by_cases hn : g = .none
      · have : pg.length = 0 := by rw [← lg, eg.2 hn]; rfl
        rw [if_pos this, hn]; rfl
      · have : pg.length ≠ 0 := by
          intro h0
          rw [← lg] at h0
          exact hn (eg.1 (List.eq_nil_of_length_eq_zero h0))
        rw [if_neg this]
        unfold Bags.optT
        split
        · exact absurd rfl hn
        · rw [Bags.s_group]
    rw [e1, e2]
    simp only [List.append_assoc]
  rw [hE]
  have hB := h12.fr hF (fun h => h)
  refine select_ref hB (by decide) (selected_ref hB (fun W' hF' => ?_) (fun W' hF' => ?_) (fun W' hF' => ?_) hw hh' (by omega))
  · rw [← ji]
    exact printed_ref (kids_fr h4 (hF.trans hF' fun _ _ h => h)) li (fun k a b => (ii k a b).fr (hF.trans hF' fun _ _ h => h)) (by omega)
  · rw [← jf]
    exact printed_ref (kids_fr h6 (hF.trans hF' fun _ _ h => h)) lf (fun k a b => (if_ k a b).fr (hF.trans hF' fun _ _ h => h)) (by omega)
  · rw [← jg]
    exact printed_ref (kids_fr h9 (hF.trans hF' fun _ _ h => h)) lg (fun k a b => (ig k a b).fr (hF.trans hF' fun _ _ h => h)) (by omega)
end Go.Proofs.YtoephflcjllaaaaGreatDoor
/- The reference's printer: every tree that is read prints as it is printed; the law Prints. -/
namespace Bags
theorem k_num : str "num" = [110, 117, 109] := by decide
theorem k_text : str "text" = [116, 101, 120, 116] := by decide
theorem k_column : str "column" = [99, 111, 108, 117, 109, 110] := by decide
theorem k_neg : str "neg" = [110, 101, 103] := by decide
theorem k_not : str "not" = [110, 111, 116] := by decide
theorem k_exists : str "exists" = [101, 120, 105, 115, 116, 115] := by decide
theorem k_isnull : str "isnull" = [105, 115, 110, 117, 108, 108] := by decide
theorem k_in : str "in" = [105, 110] := by decide
theorem k_compare : str "compare" = [99, 111, 109, 112, 97, 114, 101] := by decide
theorem k_item : str "item" = [105, 116, 101, 109] := by decide
theorem k_source : str "source" = [115, 111, 117, 114, 99, 101] := by decide
theorem k_select : str "select" = [115, 101, 108, 101, 99, 116] := by decide
theorem s_dot : str "." = [46] := by decide
theorem bin_kd {s : Str} (h : s ∈ adds ++ muls) : s = [43] ∨ s = [45] ∨ s = [42] ∨ s = [47] ∨ s = [37] ∨ s = [97, 110, 100] ∨ s = [111, 114] := by
  simp only [adds, muls, List.cons_append, List.nil_append, List.mem_cons, List.not_mem_nil, or_false] at h
  rcases h with rfl | rfl | rfl | rfl | rfl <;> decide
theorem junct_kd {s : Str} (h : s ∈ [str "and", str "or"]) : s = [43] ∨ s = [45] ∨ s = [42] ∨ s = [47] ∨ s = [37] ∨ s = [97, 110, 100] ∨ s = [111, 114] := by
  simp only [List.mem_cons, List.not_mem_nil, or_false] at h
  rcases h with rfl | rfl <;> decide
theorem agg_kd {s : Str} (h : s ∈ fns) : s = [99, 111, 117, 110, 116] ∨ s = [115, 117, 109] ∨ s = [109, 105, 110] ∨ s = [109, 97, 120] := by
  simp only [fns, List.mem_cons, List.not_mem_nil, or_false] at h
  rcases h with rfl | rfl | rfl | rfl <;> decide
theorem quant_kd {s : Str} (h : s ∈ [str "any", str "all"]) : s = [97, 110, 121] ∨ s = [97, 108, 108] := by
  simp only [List.mem_cons, List.not_mem_nil, or_false] at h
  rcases h with rfl | rfl <;> decide
theorem comb_kd {s : Str} (h : s ∈ setOps) : s = [117, 110, 105, 111, 110] ∨ s = [105, 110, 116, 101, 114, 115, 101, 99, 116] ∨ s = [101, 120, 99, 101, 112, 116] := by
  simp only [setOps, List.mem_cons, List.not_mem_nil, or_false] at h
  rcases h with rfl | rfl | rfl <;> decide
theorem sum1 (a : Str) : ([a].map fun a => a.length + 2).sum = a.length + 2 := by simp
theorem sum2 (a b : Str) : ([a, b].map fun a => a.length + 2).sum = a.length + 2 + (b.length + 2) := by simp
end Bags
namespace Go.Proofs.YtoephflcjllaaaaGreatDoor
open Go.RowKit

theorem tr_one {w : World} {B k : Nat} {a : Bags.T} (g : Bags.Good a k) (hk : 4 ≤ k) {l : List Nat} (h : tr w B a l) : ∃ x, l = [x] := by
  cases a with
  | item e s => obtain ⟨_, _, h⟩ := h; exact h.one
  | src t s => exact NodeT.one h
  | col o n => exact NodeT.one h
  | none => simp [Bags.Good] at g; omega
  | cons a b => simp only [Bags.Good] at g; omega
  | _ => simp [Bags.Good] at g; omega

theorem ref_all {w : World} {B : Nat} : ∀ t : Bags.T, Bags.Kd t → Bags.sz t ≤ 1099511627 → Rr w B t := by
  intro t
  induction t with
  | none =>
    intro _ _
    refine ⟨fun k g e => by simp only [Bags.Good] at g; omega, fun k _ _ ks h => ?_⟩
    obtain rfl : ks = [] := h
    exact ⟨[], rfl, rp0, rfl, by simp, by simp⟩
  | num n => intro _ _; exact Rr.only (fun k g b h => NodeT.rpA (Bags.k_num ▸ (show NodeT w B (Bags.str "num") [] [] [] [] n false false false [] [b] from h)) rfl rp0 (.num g.2.1 g.2.2) (by simp)) fun k g => .inl g.1
  | text s => intro _ hs; exact Rr.only (fun k g b h => NodeT.rpA (Bags.k_text ▸ (show NodeT w B (Bags.str "text") [] s [] [] 0 false false false [] [b] from h)) rfl rp0 .text (by simp only [Bags.sz] at hs; simp; omega)) fun k g => .inl g
  | null =>
    intro _ _
    refine Rr.only (fun k g b h => ?_) fun k g => .inl g
    have := NodeT.rpA (Bags.s_null ▸ (show NodeT w B (Bags.str "null") [] [] [] [] 0 false false false [] [b] from h)) rfl rp0 .null (by simp)
    rwa [show Bags.T.null.print = [110, 117, 108, 108] from by simp only [Bags.T.print, Bags.s_null]]
  | col o n =>
    intro _ hs
    simp only [Bags.sz] at hs
    refine Rr.only (fun k g b h => ?_) fun k g => by simp only [Bags.Good] at g; omega
    have h : NodeT w B [99, 111, 108, 117, 109, 110] [] n o [] 0 false false false [] [b] := Bags.k_column ▸ h
    by_cases ho : o = []
    · subst ho
      have := NodeT.rpA h rfl rp0 .col0 (by simp; omega)
      rwa [show (Bags.T.col [] n).print = n from by simp [Bags.T.print]]
    · have := NodeT.rpA h rfl rp0 (.col1 ho) (by simp; omega)
      rwa [show (Bags.T.col o n).print = o ++ [46] ++ n from by simp only [Bags.T.print, if_neg ho, Bags.s_dot]]
  | neg a ih =>
    intro hk hs
    simp only [Bags.sz] at hs
    refine Rr.only (fun k g b h => ?_) fun k g => .inl g.1
    obtain ⟨x, h1, h2⟩ := h
    have la := Bags.print_len a 0 g.2
    have := NodeT.rpA (Bags.k_neg ▸ h2) rfl (rp1 ((ih hk (by omega)).part 0 g.2 (.inl rfl) _ h1)) .neg (by rw [Bags.sum1]; simp; omega)
    rwa [show (Bags.T.neg a).print = [40, 45] ++ a.print ++ [41] from by simp only [Bags.T.print, Bags.s_neg, Bags.s_close]]
  | not a ih =>
    intro hk hs
    simp only [Bags.sz] at hs
    refine Rr.only (fun k g b h => ?_) fun k g => .inl g.1
    obtain ⟨x, h1, h2⟩ := h
    have la := Bags.print_len a 0 g.2
    have := NodeT.rpA (Bags.k_not ▸ h2) rfl (rp1 ((ih hk (by omega)).part 0 g.2 (.inl rfl) _ h1)) .not (by rw [Bags.sum1]; simp; omega)
    rwa [show (Bags.T.not a).print = [40, 110, 111, 116, 32] ++ a.print ++ [41] from by simp only [Bags.T.print, Bags.s_not, Bags.s_close]]
  | exist a ih =>
    intro hk hs
    simp only [Bags.sz] at hs
    refine Rr.only (fun k g b h => ?_) fun k g => .inl g.1
    obtain ⟨x, h1, h2⟩ := h
    have la := Bags.print_len a 0 g.2
    have := NodeT.rpA (Bags.k_exists ▸ h2) rfl (rp1 ((ih hk (by omega)).part 0 g.2 (.inl rfl) _ h1)) .exist (by rw [Bags.sum1]; simp; omega)
    rwa [show (Bags.T.exist a).print = [101, 120, 105, 115, 116, 115, 32, 40] ++ a.print ++ [41] from by simp only [Bags.T.print, Bags.s_exists, Bags.s_close]]
  | isnull a n ih =>
    intro hk hs
    simp only [Bags.sz] at hs
    refine Rr.only (fun k g b h => ?_) fun k g => .inl g.1
    obtain ⟨x, h1, h2⟩ := h
    have la := Bags.print_len a 0 g.2
    have := NodeT.rpA (Bags.k_isnull ▸ h2) rfl (rp1 ((ih hk (by omega)).part 0 g.2 (.inl rfl) _ h1)) .isnull (by rw [Bags.sum1]; simp; omega)
    rwa [show (Bags.T.isnull a n).print = a.print ++ [32, 105, 115, 32] ++ (if n then [110, 111, 116, 32] else []) ++ [110, 117, 108, 108] from by simp only [Bags.T.print, Bags.s_is, Bags.s_null, Bags.s_notb]]
  | bin s a b iha ihb =>
    intro hk hs
    simp only [Bags.sz] at hs
    refine Rr.only (fun k g c h => ?_) fun k g => .inl g.1
    obtain ⟨x, y, h1, h2, h3⟩ := h
    have la := Bags.print_len a 0 g.2.1
    have lb := Bags.print_len b 0 g.2.2
    have := NodeT.rpC h3 rfl (rp2 ((iha hk.2.1 (by omega)).part 0 g.2.1 (.inl rfl) _ h1) ((ihb hk.2.2 (by omega)).part 0 g.2.2 (.inl rfl) _ h2)) (.bin (Bags.bin_kd hk.1)) (by rw [Bags.sum2]; simp; omega)
    rwa [show (Bags.T.bin s a b).print = [40] ++ a.print ++ [32] ++ s ++ [32] ++ b.print ++ [41] from by simp only [Bags.T.print, Bags.s_open, Bags.s_blank, Bags.s_close]]
  | junct s a b iha ihb =>
    intro hk hs
    simp only [Bags.sz] at hs
    refine Rr.only (fun k g c h => ?_) fun k g => .inl g.1
    obtain ⟨x, y, h1, h2, h3⟩ := h
    have la := Bags.print_len a 0 g.2.1
    have lb := Bags.print_len b 0 g.2.2
    have := NodeT.rpC h3 rfl (rp2 ((iha hk.2.1 (by omega)).part 0 g.2.1 (.inl rfl) _ h1) ((ihb hk.2.2 (by omega)).part 0 g.2.2 (.inl rfl) _ h2)) (.bin (Bags.junct_kd hk.1)) (by rw [Bags.sum2]; simp; omega)
    rwa [show (Bags.T.junct s a b).print = [40] ++ a.print ++ [32] ++ s ++ [32] ++ b.print ++ [41] from by simp only [Bags.T.print, Bags.s_open, Bags.s_blank, Bags.s_close]]
  | cmp s a b iha ihb =>
    intro hk hs
    simp only [Bags.sz] at hs
    refine Rr.only (fun k g c h => ?_) fun k g => .inl g.1
    obtain ⟨x, y, h1, h2, h3⟩ := h
    have la := Bags.print_len a 0 g.2.1
    have lb := Bags.print_len b 0 g.2.2
    have := NodeT.rpB (Bags.k_compare ▸ h3) rfl (rp2 ((iha hk.1 (by omega)).part 0 g.2.1 (.inl rfl) _ h1) ((ihb hk.2 (by omega)).part 0 g.2.2 (.inl rfl) _ h2)) .cmp (by rw [Bags.sum2]; simp; omega)
    rwa [show (Bags.T.cmp s a b).print = a.print ++ [32] ++ s ++ [32] ++ b.print from by simp only [Bags.T.print, Bags.s_blank]]
  | isin a n b iha ihb =>
    intro hk hs
    simp only [Bags.sz] at hs
    refine Rr.only (fun k g c h => ?_) fun k g => .inl g.1
    obtain ⟨x, y, h1, h2, h3⟩ := h
    have la := Bags.print_len a 0 g.2.1
    have lb := Bags.print_len b 0 g.2.2
    have := NodeT.rpB (Bags.k_in ▸ h3) rfl (rp2 ((iha hk.1 (by omega)).part 0 g.2.1 (.inl rfl) _ h1) ((ihb hk.2 (by omega)).part 0 g.2.2 (.inl rfl) _ h2)) .isin (by rw [Bags.sum2]; simp; omega)
    rwa [show (Bags.T.isin a n b).print = a.print ++ [32] ++ (if n then [110, 111, 116, 32] else []) ++ [105, 110, 32, 40] ++ b.print ++ [41] from by simp only [Bags.T.print, Bags.s_in, Bags.s_blank, Bags.s_close, Bags.s_notb]]
  | quant s how a b iha ihb =>
    intro hk hs
    simp only [Bags.sz] at hs
    refine Rr.only (fun k g c h => ?_) fun k g => .inl g.1
    obtain ⟨x, y, h1, h2, h3⟩ := h
    have la := Bags.print_len a 0 g.2.1
    have lb := Bags.print_len b 0 g.2.2
    have := NodeT.rpB h3 rfl (rp2 ((iha hk.2.1 (by omega)).part 0 g.2.1 (.inl rfl) _ h1) ((ihb hk.2.2 (by omega)).part 0 g.2.2 (.inl rfl) _ h2)) (.quant (Bags.quant_kd hk.1)) (by rw [Bags.sum2]; simp; omega)
    rwa [show (Bags.T.quant s how a b).print = a.print ++ [32] ++ s ++ [32] ++ how ++ [32, 40] ++ b.print ++ [41] from by simp only [Bags.T.print, Bags.s_blank, Bags.s_bopen, Bags.s_close]]
  | comb s all a b iha ihb =>
    intro hk hs
    simp only [Bags.sz] at hs
    refine Rr.only (fun k g c h => ?_) fun k g => .inl g.1
    obtain ⟨x, y, h1, h2, h3⟩ := h
    have la := Bags.print_len a 0 g.2.1
    have lb := Bags.print_len b 0 g.2.2
    have hr := rp2 ((iha hk.2.1 (by omega)).part 0 g.2.1 (.inl rfl) _ h1) ((ihb hk.2.2 (by omega)).part 0 g.2.2 (.inl rfl) _ h2)
    cases all
    · have := NodeT.rpC h3 rfl hr (.comb0 (Bags.comb_kd hk.1)) (by rw [Bags.sum2]; simp; omega)
      rwa [show (Bags.T.comb s false a b).print = [40] ++ a.print ++ [32] ++ s ++ [32] ++ b.print ++ [41] from by simp [Bags.T.print, Bags.s_open, Bags.s_blank, Bags.s_close]]
    · have := NodeT.rpC h3 rfl hr (.comb1 (Bags.comb_kd hk.1)) (by rw [Bags.sum2]; simp; omega)
      rwa [show (Bags.T.comb s true a b).print = [40] ++ a.print ++ [32] ++ s ++ [32, 97, 108, 108, 32] ++ b.print ++ [41] from by simp [Bags.T.print, Bags.s_open, Bags.s_blank, Bags.s_close, Bags.s_all]]
  | agg fn a ih =>
    intro hk hs
    simp only [Bags.sz] at hs
    refine Rr.only (fun k g b h => ?_) fun k g => .inl g.1
    rcases h with ⟨rfl, h⟩ | ⟨x, h1, h2⟩
    · have hfn : fn = [99, 111, 117, 110, 116] := (hk.2.1 rfl).trans (by decide)
      subst hfn
      have := NodeT.rpA h rfl rp0 .agg0 (by simp)
      rwa [show (Bags.T.agg [99, 111, 117, 110, 116] .none).print = [99, 111, 117, 110, 116, 40, 42, 41] from by simp [Bags.T.print, Bags.s_star]]
    · have hn : a ≠ .none := fun e => tr_none (e ▸ h1)
      have ga := g.2.resolve_left hn
      have la := Bags.print_len a 0 ga
      have := NodeT.rpB h2 rfl (rp1 ((ih hk.2.2 (by omega)).part 0 ga (.inl rfl) _ h1)) (.agg (Bags.agg_kd hk.1)) (by rw [Bags.sum1]; simp; omega)
      have he : (Bags.T.agg fn a).print = fn ++ [40] ++ a.print ++ [41] := by
        cases a <;> first | exact absurd rfl hn | simp only [Bags.T.print, Bags.s_open, Bags.s_close]
      rwa [he]
  | item e s ih =>
    intro hk hs
    simp only [Bags.sz] at hs
    refine Rr.only (fun k g b h => ?_) fun k g => .inr (by have := g.1; omega)
    obtain ⟨x, h1, h2⟩ := h
    have la := Bags.print_len e 0 g.2
    exact NodeT.rpA (Bags.k_item ▸ h2) rfl (rp1 ((ih hk (by omega)).part 0 g.2 (.inl rfl) _ h1)) .item (by rw [Bags.sum1]; simp; omega)
  | src t s =>
    intro hk hs
    simp only [Bags.sz] at hs
    exact Rr.only (fun k g b h => NodeT.rpA (Bags.k_source ▸ (show NodeT w B (Bags.str "source") [] t [] s 0 false false false [] [b] from h)) rfl rp0 .src (by simp; omega)) fun k g => .inr (by simp only [Bags.Good] at g; omega)
  | sel d it f wh g h ih1 ih2 ih3 ih4 ih5 =>
    intro hk hs
    have hs' := hs
    simp only [Bags.sz] at hs'
    exact Rr.only (fun k gd b hr => RP.sel (ih1 hk.1 (by omega)) (ih2 hk.2.1 (by omega)) (ih3 hk.2.2.1 (by omega)) (ih4 hk.2.2.2.1 (by omega)) (ih5 hk.2.2.2.2 (by omega)) (by have e := gd.1; subst e; exact gd) hs hr) fun k g => .inl g.1
  | cons a r iha ihr =>
    intro hk hs
    simp only [Bags.sz] at hs
    have ia := iha hk.1 (by omega)
    have ir := ihr hk.2 (by omega)
    refine ⟨fun k g e => by simp only [Bags.Good] at g; omega, fun k g e ks h => ?_⟩
    obtain ⟨l1, l2, rfl, h1, h2⟩ := h
    obtain ⟨ka, hka, ga, gr⟩ : ∃ ka, 4 ≤ ka ∧ Bags.Good a ka ∧ Bags.Good r k := by
      obtain ⟨rfl, ga, gr⟩ | ⟨rfl, ga, gr⟩ | ⟨rfl, ga, gr⟩ := g
      · exact ⟨4, by omega, ga, gr⟩
      · exact ⟨5, by omega, ga, gr⟩
      · exact ⟨6, by omega, ga, gr⟩
    obtain ⟨x, rfl⟩ := tr_one ga hka h1
    have hx := ia.part ka ga (.inr hka) x h1
    obtain ⟨ss, hl, hp, hj, hu, he⟩ := ir.list k gr e l2 h2
    have la := Bags.print_len a _ ga
    refine ⟨a.print :: ss, by simp [hl], ?_, ?_, ?_, by simp⟩
    · intro k h h'
      cases k with
      | zero => exact hx
      | succ k => exact hp k (by simpa using h) (by simpa using h')
    · rw [Bags.joinC_cons, hj]
      by_cases hb : r = .none
      · subst hb; rw [if_pos (he.2 rfl), Bags.print_cons1]
      · rw [if_neg (fun e => hb (he.1 e)), Bags.print_cons2 _ _ hb]
    · simp only [List.map_cons, List.sum_cons, Bags.sz]; omega

/-- A reading's words are those of the language. -/
theorem reading_kd {s : Bags.Str} {t : Bags.T} (h : Bags.Reading s (.inr t)) : Bags.Kd t := by
  unfold Bags.Reading at h
  split at h
  · cases h
  · rcases h with ⟨t', g, h⟩ | ⟨_, h⟩
    · split at h
      · cases h
      · injection h with h
        subst h
        exact (Bags.kd_G g).1
    · cases h
theorem refPrint {s : Bags.Str} {t : Bags.T} (h : Bags.Reading s (.inr t)) {w : World} {B b : Nat} (ht : tr w B t [b]) : Calls Tryz.prog 10 #[.pointer (some ⟨b, 0, none⟩)] w (PPost w t.print) := by
  obtain ⟨g1, g2, _⟩ := reading_good h
  exact (ref_all t (reading_kd h) (by omega)).part 0 g1 (.inl rfl) b ht w (Fr.refl _ _)
end Go.Proofs.YtoephflcjllaaaaGreatDoor
