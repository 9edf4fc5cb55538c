/- Walk: head. -/
import Derived.Test.YtoephflcjllaaaaGreatDoorJ28
import Derived.Deep.RegionLaw
import Derived.Deep.CutRange
namespace Go.Proofs.YtoephflcjllaaaaGreatDoor
open Go.RowKit Go.Maps Go.WideMaps

/-- What the program's loop over a table's line holds. -/
def KSeen (l : List Bags.Str) (i : Nat) (names : List Bags.Str) (kinds : List Bool) : Prop :=
  names.length = kinds.length ∧ i = 2 + 2 * names.length ∧ Bags.colsOf [] (l.drop 2) = (Bags.colsOf names (l.drop i)).map (kinds ++ ·)
theorem KSeen.start (l : List Bags.Str) : KSeen l 2 [] [] := ⟨rfl, rfl, by simp⟩
theorem drop_two {l : List Bags.Str} {i : Nat} (hi : i + 1 < l.length) : l.drop i = l[i] :: l[i + 1] :: l.drop (i + 2) := by
  rw [List.drop_eq_getElem_cons (by omega), List.drop_eq_getElem_cons hi]
theorem KSeen.good {l : List Bags.Str} {i : Nat} {names : List Bags.Str} {kinds : List Bool} (h : KSeen l i names kinds) (hi : i + 1 < l.length) (h1 : Bags.nameP l[i] = true) (h2 : names.contains l[i] = false) (h3 : kindNum l[i + 1] ≠ 0) :
    KSeen l (i + 2) (names ++ [l[i]]) (kinds ++ [l[i + 1] == Bags.str "text"]) := by
  obtain ⟨q1, q2, q3⟩ := h
  refine ⟨by simp [q1], by simp; omega, ?_⟩
  rw [drop_two hi, Bags.colsOf_go (by
    rw [h1, h2]
    unfold kindNum at h3
    split at h3
    · rename_i e; rw [e]; rfl
    · split at h3
      · rename_i e; rw [e]; decide
      · exact absurd rfl h3)] at q3
  rw [q3, Option.map_map]; congr 1; funext x; simp
theorem KSeen.bad {l : List Bags.Str} {i : Nat} {names : List Bags.Str} {kinds : List Bool} (h : KSeen l i names kinds) (hi : i + 1 < l.length) (hb : Bags.nameP l[i] = false ∨ names.contains l[i] = true ∨ kindNum l[i + 1] = 0) (hl : ¬ (l.length < 4 ∨ l.length % 2 = 1 ∨ 14 < l.length)) : Bags.headOf l = none := by
  obtain ⟨q1, q2, q3⟩ := h
  have hg : (Bags.nameP l[i] && !names.contains l[i] && (l[i + 1] == Bags.str "int" || l[i + 1] == Bags.str "text")) = false := by
    rcases hb with e | e | e
    · rw [e]; rfl
    · rw [e]; simp
    · unfold kindNum at e
      split at e
      · cases e
      · split at e
        · cases e
        · rename_i a b; simp [a, b]
  have q5 : Bags.colsOf [] (l.drop 2) = none := by rw [q3, drop_two hi, Bags.colsOf_no hg]; rfl
  clear q3 hg hb
  unfold Bags.headOf
  rw [if_neg hl]
  match l, hl with
  | [], hl => exact absurd (by simp) hl
  | [_], hl => exact absurd (by simp) hl
  | _ :: n :: r, _ =>
    have q4 : Bags.colsOf [] r = none := q5
    show (if Bags.nameP n = true then (Bags.colsOf [] r).map fun c => (n, c) else none) = none
    rw [q4]
    split <;> rfl
theorem KSeen.stop {l : List Bags.Str} {i : Nat} {names : List Bags.Str} {kinds : List Bool} (h : KSeen l i names kinds) (hi : ¬ i < l.length) (hl : ¬ (l.length < 4 ∨ l.length % 2 = 1 ∨ 14 < l.length)) (hn : Bags.nameP (l.getD 1 []) = true) : Bags.headOf l = some (l.getD 1 [], kinds) := by
  obtain ⟨q1, q2, q3⟩ := h
  have q4 : Bags.colsOf [] (l.drop 2) = some kinds := by rw [q3, List.drop_of_length_le (i := i) (by omega)]; simp [Bags.colsOf]
  clear q3
  unfold Bags.headOf
  rw [if_neg hl]
  match l, hl with
  | [], hl => exact absurd (by simp) hl
  | [_], hl => exact absurd (by simp) hl
  | _ :: n :: r, _ =>
    have q5 : Bags.colsOf [] r = some kinds := q4
    have hn' : Bags.nameP n = true := hn
    show (if Bags.nameP n = true then (Bags.colsOf [] r).map fun c => (n, c) else none) = _
    rw [q5, if_pos hn']
    rfl
theorem headOf_name {l : List Bags.Str} (hn : Bags.nameP (l.getD 1 []) = false) : Bags.headOf l = none := by
  unfold Bags.headOf
  split
  · rfl
  · match l with
    | [] => rfl
    | [_] => rfl
    | _ :: n :: r => have hn' : Bags.nameP n = false := hn; simp [hn']
theorem own_ne_own {w : World} {base base' : Nat} {e e' : TypeId} {size size' n n' : Nat} {v v' : Value} {xs ys : List Value} (h : w.ownsRow base e size v n xs) (h' : w.ownsRow base' e' size' v' n' ys) (hne : e ≠ e') : ∀ g, v.ownBlock = some g → v'.ownBlock ≠ some g := by
  intro g hg hg'
  obtain ⟨_, h2⟩ := h'
  rcases h2 with ⟨rfl, _⟩ | ⟨g', cap, cur, rfl, h3, h4, _⟩
  · simp [Value.ownBlock] at hg'
  · simp [Value.ownBlock] at hg'; subst hg'
    exact own_ne_blk h h4 hne hg
theorem below_grown {w0 wc w1 : World} {B : Nat} {row : Option Nat} (hb : Below B w0 wc) (hg : wc.grownBy w1 row) (hr : ∀ g, row = some g → B ≤ g) (hB : B ≤ wc.heap.size) : Below B w0 w1 :=
  hb.trans ⟨hg.os, hg.tape, hg.output, hg.size, fun k hk => hg.block k (by omega) (fun e => by have := hr k e.symm; omega)⟩
def kindV (t : Bool) : Value := .int .i64 (if t then 2 else 1)
theorem own_keep {w w' : World} {base : Nat} {e : TypeId} {size n : Nat} {v : Value} {xs : List Value} (h : w.ownsRow base e size v n xs) {row : Option Nat} (hk : ∀ k, k < w.heap.size → some k ≠ row → w'.heap[k]? = w.heap[k]?) (hne : ∀ g, v.ownBlock = some g → some g ≠ row) : w'.ownsRow base e size v n xs := by
  obtain ⟨h1, h2⟩ := h
  refine ⟨h1, ?_⟩
  rcases h2 with h2 | ⟨g, cap, cur, rfl, h3, h4, h5⟩
  · exact .inl h2
  · exact .inr ⟨g, cap, cur, rfl, h3, (hk g (lt_of_some h4) (hne g rfl)).trans h4, h5⟩
theorem below_set {w0 w1 : World} {B : Nat} (hb : Below B w0 w1) {p : Addr} (hp : B ≤ p.block) (u : Value) : Below B w0 (w1.setCell p u) :=
  hb.trans ⟨rfl, rfl, rfl, by simp [World.setCell], fun k hk => Below.heap_setCell w1 p u k (by omega)⟩
theorem kindV_num {s : Bags.Str} (h : kindNum s ≠ 0) : Value.int .i64 (kindNum s) = kindV (s == Bags.str "text") := by
  unfold kindNum at h ⊢
  unfold kindV
  split
  · rename_i e; rw [e]; rfl
  · rename_i e
    rw [if_neg e] at h
    split
    · rename_i e2; rw [e2]; rfl
    · rename_i e2; rw [if_neg e2] at h; exact absurd rfl h
theorem elem_kinds : Elem Tryz.prog 110 115 1 8 := ⟨Tryz.underlying110, by kernel_rfl, by decide⟩

/-- What head answers. -/
def HeadPost (l : List Bags.Str) (w : World) (e : Ending) (w' : World) : Prop :=
  Below w.heap.size w w' ∧ ((Bags.headOf l = none ∧ e = .returned (.tuple #[.pointer none, .bool false])) ∨ ∃ (kinds : List Bool) (T : Nat) (vN vK : Value) (cn : List Value), Bags.headOf l = some (l.getD 1 [], kinds) ∧
    e = .returned (.tuple #[.pointer (some ⟨T, 0, none⟩), .bool true]) ∧ w.heap.size ≤ T ∧ Blk w' T 113 #[vN, vK, .slice none 0 0] ∧
    w'.ownsRow w.heap.size 9 1 vN kinds.length cn ∧ w'.ownsRow w.heap.size 115 1 vK kinds.length (kinds.map kindV))

theorem isName_progP (s : Bags.Str) (w : World) (hs : s.length ≤ 4000) : Calls Tryz.prog 48 #[.string (tx s)] w fun e w' => e = .returned (.bool (Bags.nameP s)) ∧ w = w' := by
  have := isName_prog (tx s) w (by rw [tx_size]; omega)
  rwa [bs_tx] at this

set_option maxRecDepth 100000 in
set_option maxHeartbeats 8000000 in
theorem head_prog (l : List Bags.Str) (v : Value) (w : World) (base : Nat) (hr : w.ownsRow base 9 1 v l.length (l.map strV)) (hl : ∀ p ∈ l, p.length ≤ 4000) :
    Calls Tryz.prog 29 #[v] w (HeadPost l w) := by
  by_cases hbad : l.length < 4 ∨ l.length % 2 = 1 ∨ 14 < l.length
  · have hno : Bags.headOf l = none := by unfold Bags.headOf; rw [if_pos hbad]
    obtain ⟨ba, cap, rfl⟩ := own_slice hr
    have HNO := Lib.hid hno
    clear hno hr
    rcases (show ((l.length : Int) < 4) ∨ ((4 : Int) ≤ l.length ∧ (l.length : Int) % 2 = 1) ∨ ((4 : Int) ≤ l.length ∧ (l.length : Int) % 2 = 0 ∧ (14 : Int) < l.length) by omega) with h1 | ⟨h1, h2⟩ | ⟨h1, h2, h3⟩
    all_goals
      go_enter Tryz.func29, Tryz.ntmps29
      go_wp2_with fail
      go_ret2
      exact ⟨(Below.refl _ _).alloc (Nat.le_refl _) _, .inl ⟨HNO.out, rfl⟩⟩
  · obtain ⟨g, cap, rfl, hcap1, hcap2, hg, hc⟩ := row_get hr (by omega)
    unfold maxLen at hcap2
    have c1 := hc 1 (by omega)
    have hg1 : l.getD 1 [] = l[1] := by rw [List.getD_eq_getElem?_getD]; simp [show 1 < l.length by omega]
    have hp1 := hl l[1] (List.getElem_mem _)
    have HN1 := Lib.hid (fun W => isName_progP l[1] W hp1)
    have g1 : (4 : Int) ≤ l.length := by omega
    have g2 : (l.length : Int) ≤ 14 := by omega
    have g3 : (l.length : Int) % 2 = 0 := by omega
    have f1 := fun o => cell_alloc c1 o
    have HC := Lib.hid hc
    cases hnm : Bags.nameP l[1]
    · have HNO := Lib.hid (headOf_name (l := l) (by rw [hg1]; exact hnm))
      rw [hnm] at HN1
      clear hc hr hnm
      go_enter Tryz.func29, Tryz.ntmps29
      go_wp2_with fail
      refine (HN1.out _).mono ?_
      rintro e w1 ⟨rfl, rfl⟩
      go_wp2_with fail
      go_ret2
      exact ⟨(Below.refl _ _).alloc (Nat.le_refl _) _, .inl ⟨HNO.out, rfl⟩⟩
    · have HNM := Lib.hid hnm
      rw [hnm] at HN1
      clear hc hr hnm
      go_enter Tryz.func29, Tryz.ntmps29
      go_wp2_with fail
      refine (HN1.out _).mono ?_
      rintro e w1 ⟨rfl, rfl⟩
      have hmk := fun W => run_makeMap (P := Tryz.prog) 114 W
      go_wp2_with fail
      go_loopw [6, 7] (fun i kk wr => ∃ (k : Nat) (names : List Bags.Str) (kinds : List Bool) (vN vK : Value), i = .int .i64 k ∧ k ≤ l.length ∧ KSeen l k names kinds ∧ Blk wr w.heap.size 113 #[vN, vK, .slice none 0 0] ∧
          wr.ownsRow w.heap.size 9 1 vN names.length (names.map strV) ∧ wr.ownsRow w.heap.size 115 1 vK kinds.length (kinds.map kindV) ∧ MapIs wr intElem (w.heap.size + 1) names oneInt ∧ Below w.heap.size w wr) (fun i _ _ => l.length - (intOf i).toNat)
      case atStart => exact ⟨2, [], [], .slice none 0 0, .slice none 0 0, rfl, by omega, KSeen.start l, (Blk.made _ _ _).alloc _, ⟨rfl, .inl ⟨rfl, rfl⟩⟩, ⟨rfl, .inl ⟨rfl, rfl⟩⟩, by simpa using MapIs.made (w.alloc (.cells #[.slice none 0 0, .slice none 0 0, .slice none 0 0] 113)) intElem oneInt, ((Below.refl _ _).alloc (Nat.le_refl _) _).alloc (by simp) _⟩
      case round =>
        rename_i wr
        obtain ⟨k, names, kinds, vN, vK, rfl, hk, hs, hbT, hoN, hoK, hM, hbl⟩ := hrel
        have HBL := Lib.hid hbl
        have hsz := hbl.size
        by_cases hlt : k < l.length
        · have hk1 : k + 1 < l.length := by obtain ⟨q1, q2, _⟩ := hs; omega
          have hnl : names.length ≤ 7 := by obtain ⟨q1, q2, _⟩ := hs; omega
          have hkl : kinds.length ≤ 7 := by obtain ⟨q1, q2, _⟩ := hs; omega
          have hlt' : (k : Int) < (l.length : Int) := by omega
          have hk1' : (k : Int) + 1 < (l.length : Int) := by omega
          obtain ⟨bN, pN, rfl⟩ := own_slice hoN
          obtain ⟨bK, pK, rfl⟩ := own_slice hoK
          have d0 := (hbl.cell (p := ⟨g, k, none⟩) hg).trans (HC.out k hlt)
          have d1 := (hbl.cell (p := ⟨g, k + 1, none⟩) hg).trans (HC.out (k + 1) hk1)
          have hpk := hl l[k] (List.getElem_mem _)
          have HN2 := Lib.hid (fun W => isName_progP l[k] W hpk)
          have HKO := Lib.hid (fun W => kindOf_any (tx l[k + 1]) W)
          rw [bs_tx] at HKO
          by_cases hkz : kindNum l[k + 1] = 0
          · rw [hkz] at HKO
            have HNO := Lib.hid (hs.bad hk1 (.inr (.inr hkz)) hbad)
            clear hs
            go_wp2_with fail
            refine (HKO.out _).mono ?_
            rintro e w1 ⟨rfl, rfl⟩
            go_wp2_with fail
            go_ret2
            exact ⟨HBL.out, .inl ⟨HNO.out, rfl⟩⟩
          · have hkz' : (kindNum l[k + 1] == 0) = false := by simpa using hkz
            cases hnk : Bags.nameP l[k]
            · rw [hnk] at HN2
              have HNO := Lib.hid (hs.bad hk1 (.inl hnk) hbad)
              clear hs
              go_wp2_with fail
              refine (HKO.out _).mono ?_
              rintro e w1 ⟨rfl, rfl⟩
              go_wp2_with fail
              refine (HN2.out _).mono ?_
              rintro e w1 ⟨rfl, rfl⟩
              go_wp2_with fail
              go_ret2
              exact ⟨HBL.out, .inl ⟨HNO.out, rfl⟩⟩
            · rw [hnk] at HN2
              have hL := hM.look_int hpk
              cases hct : names.contains l[k]
              · rw [hct] at hL
                have HS2 := Lib.hid (hs.good hk1 hnk hct hkz)
                clear hs
                go_wp2_with fail
                refine (HKO.out _).mono ?_
                rintro e w1 ⟨rfl, rfl⟩
                go_wp2_with fail
                refine (HN2.out _).mono ?_
                rintro e w1 ⟨rfl, rfl⟩
                obtain ⟨D, hown, hnm⟩ := hM
                have HM := Lib.hid (show MapIs wr intElem (w.heap.size + 1) names oneInt from ⟨D, hown, hnm⟩)
                have HNM2 := Lib.hid (hnm.put (hown.tidy keyed) hct)
                have HOWN := Lib.hid hown
                have HT0 := Lib.hid hbT
                have HON0 := Lib.hid hoN
                have HOK0 := Lib.hid hoK
                clear hown hnm hbT hoN hoK hbl
                go_wp2_with (at_mapUpdate; refine wpList_mapUpdate_own _ rfl _ _ _ 114 rfl 9 3 keyed Tryz.underlying114 intElem (w.heap.size + 1) names.length D rfl HOWN.out (by unfold maxLen; omega) _ _ _ rfl rfl (key_tx hpk) oneInt [] (plainElem_int Tryz.underlying3 (by decide)) ?_; intro wm hownm hgm; have HGM := Lib.hid hgm; have HMM := Lib.hid (show MapIs wm intElem (w.heap.size + 1) (names ++ [l[k]]) oneInt from ⟨_, by simpa using hownm, HNM2.out⟩); clear hownm hgm)
                have hT1 := HT0.out.grown HGM.out (by simp)
                have HT := Lib.hid hT1
                have HON := Lib.hid (own_grown HON0.out HGM.out (fun g h e => HM.out.ne_own HON0.out (e ▸ h)))
                have HOK := Lib.hid (own_grown HOK0.out HGM.out (fun g h e => HM.out.ne_own HOK0.out (e ▸ h)))
                have hblm := below_grown HBL.out HGM.out (fun g e => by injection e; omega) hsz
                have hszm := hblm.size
                have d0 := (hblm.cell (p := ⟨g, k, none⟩) hg).trans (HC.out k hlt)
                have HBLM := Lib.hid hblm
                have t0 := hT1.cell 0
                have t0' := fun o => (hT1.alloc o).cell 0
                have d0' := fun o => cell_alloc d0 o
                simp at t0 t0'
                clear hT1 hblm
                go_upto_region 12 with fail
                try simp only [Act.put]
                go_cut [7] from 32 to 90 (fun kk wx => kk = .int .i64 (kindNum l[k + 1]) ∧ ∃ vN3 : Value, Blk wx w.heap.size 113 #[vN3, .slice bK kinds.length pK, .slice none 0 0] ∧ wx.ownsRow w.heap.size 9 1 vN3 (names.length + 1) (names.map strV ++ [.string (tx l[k])]) ∧
                  wx.ownsRow w.heap.size 115 1 (.slice bK kinds.length pK) kinds.length (kinds.map kindV) ∧ MapIs wx intElem (w.heap.size + 1) (names ++ [l[k]]) oneInt ∧ Below w.heap.size w wx)
                case first =>
                  go_region_law ((refine step_append_one rfl (.tmp 72) (.tmp 77) rfl elem_strs rfl (own_drew (HON.out.alloc _)) rfl (Blk.made wm _ _).drew rfl ?_ ?_ ?_ ?_ ?_); (simp [Value.oneCell']); (unfold maxLen; omega); (omega); (first | (simp; done) | (simp; omega)); (intro v3 w3 hown3 hg3 hat3); (obtain ⟨bC3, pC3, rfl⟩ := own_slice hown3); (have hT3 := grown_blk (own_drew (HON.out.alloc _)) (HT.out.alloc _).drew hg3 (by decide)); (have HO3 := Lib.hid hown3); (have HG3 := Lib.hid (And.intro hg3 hat3)); (have u1 := hT3.cell 0); (have u2 := hT3.free 0); (simp at u1); (clear hT3 hown3 hg3 hat3))
                  all_goals
                    go_wp2_with fail
                    go_meet
                    case rel => exact ⟨rfl, _, by simpa using fa_self HON.out HT.out HG3.out.1 (by decide) 0 (.slice bC3 (names.length + 1) pC3), fa_own HON.out HT.out HG3.out.1 (by decide) HO3.out 0 _, fa_other HON.out HT.out HG3.out.1 (by decide) HOK.out (own_ne_own HON.out HOK.out (by decide)) 0 _, (((HMM.out.alloc _).drew.grown HG3.out.1 (Ne.symm (HMM.out.ne_own HON.out))).set (p := ⟨w.heap.size, 0, none⟩) (by simp) _), fa_below HBLM.out (by omega) HON.out (Nat.le_refl _) HG3.out.1 (Nat.le_refl _) 0 _⟩
                case rest =>
                  obtain ⟨rfl, vN3, hT4, hN4, hK4, hM4, hbl4⟩ := hcut
                  obtain ⟨bN4, pN4, rfl⟩ := own_slice hN4
                  have hszz := hbl4.size
                  have t1 := hT4.cell 1
                  simp at t1
                  have HT4 := Lib.hid hT4
                  have HN4 := Lib.hid hN4
                  have HK4 := Lib.hid hK4
                  have HM4 := Lib.hid hM4
                  have HBL4 := Lib.hid hbl4
                  clear hT4 hN4 hK4 hM4 hbl4
                  go_wp2_with (at_builtin; refine wpList_append_one rfl _ _ rfl (base := w.heap.size) elem_kinds rfl HK4.out (cs := #[.int .i64 (kindNum l[k + 1])]) rfl rfl rfl (by simp [Value.oneCell']) (by unfold maxLen; omega) (by omega) hszz ?_; intro v5 w5 hown5 hb5 hk5 hz5; obtain ⟨bK5, pK5, rfl⟩ := own_slice hown5; have hT5 : Blk w5 w.heap.size _ _ := (hk5 _ HT4.out.lt (Ne.symm (own_ne_blk HK4.out HT4.out (by decide)))).trans HT4.out; have HT5 := Lib.hid hT5; have HO5 := Lib.hid hown5; have HK5 := Lib.hid (And.intro hk5 hb5); have u3 := hT5.cell 1; have u4 := hT5.free 1; simp at u3; clear hT5 hown5 hb5 hk5)
                  have HO6 := HO5.out
                  rw [kindV_num hkz] at HO6
                  exact ⟨⟨k + 2, names ++ [l[k]], kinds ++ [l[k + 1] == Bags.str "text"], _, _, by simp, by omega, HS2.out, by simpa using HT5.out.put 1 (.slice bK5 (kinds.length + 1) pK5),
                    by simpa [strV] using own_set (own_keep HN4.out HK5.out.1 (fun g h e => own_ne_own HN4.out HK4.out (by decide) g h e.symm)) (p := ⟨w.heap.size, 1, none⟩) (own_ne_blk HN4.out HT4.out (by decide)) (.slice bK5 (kinds.length + 1) pK5),
                    by simpa using own_set HO6 (p := ⟨w.heap.size, 1, none⟩) (own_ne_blk HO6 HT5.out (by decide)) (.slice bK5 (kinds.length + 1) pK5),
                    (HM4.out.keep (HK5.out.1 _ HM4.out.lt (Ne.symm (HM4.out.ne_own HK4.out)))).set (p := ⟨w.heap.size, 1, none⟩) (by simp) _, below_set (HBL4.out.trans HK5.out.2) (p := ⟨w.heap.size, 1, none⟩) (Nat.le_refl _) _⟩, by simp [intOf]; omega⟩
              · rw [hct] at hL
                have HNO := Lib.hid (hs.bad hk1 (.inr (.inl hct)) hbad)
                clear hs
                go_wp2_with fail
                refine (HKO.out _).mono ?_
                rintro e w1 ⟨rfl, rfl⟩
                go_wp2_with fail
                refine (HN2.out _).mono ?_
                rintro e w1 ⟨rfl, rfl⟩
                go_wp2_with fail
                go_ret2
                exact ⟨HBL.out, .inl ⟨HNO.out, rfl⟩⟩
        · have hlt' : ¬ (k : Int) < (l.length : Int) := by omega
          have HHD := Lib.hid (hs.stop hlt hbad (by rw [hg1]; exact HNM.out))
          have HO := Lib.hid (And.intro hbT (And.intro hoN hoK))
          have hnk := hs.1
          clear hs hbT hoN hoK hbl hM
          go_wp2_with fail
          go_ret2
          exact ⟨HBL.out, .inr ⟨kinds, w.heap.size, vN, vK, names.map strV, HHD.out, rfl, Nat.le_refl _, HO.out.1, hnk ▸ HO.out.2.1, HO.out.2.2⟩⟩
end Go.Proofs.YtoephflcjllaaaaGreatDoor
