/- Walk of the reference: Data. -/
import Derived.Test.YtoephflcjllaaaaGreatDoorOZ
import Derived.Deep.RegionWith
import Derived.Deep.RegionHeld3
namespace Go.Proofs.YtoephflcjllaaaaGreatDoor
open Go.RowKit Go.Maps Go.WideMaps

/-- What Data answers: the line. -/
def lineNum (y : Option Nat) : Int := match y with
  | none => -1
  | some n => n
def DataPost (s : ByteArray) (w : World) (e : Ending) (w' : World) : Prop := Below w.heap.size w w' ∧ ∃ v r, e = .returned (.tuple #[v, .int .i64 r]) ∧ r = lineNum (Bags.dataOf (bs s))
/-- The table that is read at last, in the reference's row. -/
def LastRef (w : World) (B : Nat) (t : Bags.Tabs) (TS : List RT) : Prop :=
  t.names = [] ∨ ∃ (pre : List RT) (nm : Bags.Str) (b1 : Option Addr) (n1 c1 : Nat) (b2 : Option Addr) (n2 c2 : Nat) (b3 : Option Addr) (n3 c3 : Nat) (cC cR : List Value), TS = pre ++ [(nm, .slice b1 n1 c1, .slice b2 n2 c2, .slice b3 n3 c3)] ∧ 1 ≤ t.kinds.length ∧ t.kinds.length ≤ 7 ∧ t.rows ≤ 12 ∧
    w.ownsRow B 9 1 (.slice b1 n1 c1) t.kinds.length cC ∧ w.ownsRow B 9 1 (.slice b2 n2 c2) t.kinds.length (t.kinds.map fun x => .string (typS x)) ∧ w.ownsRow B 50 1 (.slice b3 n3 c3) t.rows cR
theorem LastRef.later {w w' : World} {B : Nat} {t : Bags.Tabs} {TS : List RT} (h : LastRef w B t TS) (hb : Below w.heap.size w w') : LastRef w' B t TS := by
  rcases h with h | ⟨pre, nm, b1, n1, c1, b2, n2, c2, b3, n3, c3, cC, cR, h1, h2, h3, h4, h5, h6, h7⟩
  · exact .inl h
  · exact .inr ⟨pre, nm, b1, n1, c1, b2, n2, c2, b3, n3, c3, cC, cR, h1, h2, h3, h4, own_later h5 hb, own_later h6 hb, own_later h7 hb⟩

theorem own_n {w : World} {base : Nat} {e : TypeId} {size n n' c : Nat} {b : Option Addr} {xs : List Value} (h : w.ownsRow base e size (.slice b n' c) n xs) : n' = n := by
  obtain ⟨_, h2⟩ := h
  rcases h2 with ⟨h2, h3⟩ | ⟨g', cap, cur, h2, _⟩
  · injection h2 with _ h2 _; rw [h2, h3]
  · injection h2 with _ h2 _
theorem tab_last (pre : List RT) (x : RT) (j : Nat) (hj : j < 4) : ((pre ++ [x]).flatMap tabCells)[pre.length * 4 + j]? = (tabCells x)[j]? := by
  have := tab_get (pre ++ [x]) pre.length (by simp) j hj
  rw [this]; simp

theorem elem_rvals : Elem Tryz.prog 50 52 3 40 := ⟨Tryz.underlying50, by kernel_rfl, by decide⟩
theorem elem_rrows : Elem Tryz.prog 44 50 1 24 := ⟨Tryz.underlying44, by kernel_rfl, by decide⟩
theorem tab_set (pre : List RT) (nm : Bags.Str) (s1 s2 s3 s3' : Value) : ((pre ++ [(nm, s1, s2, s3)]).flatMap tabCells).set (pre.length * 4 + 3) s3' = (pre ++ [(nm, s1, s2, s3')]).flatMap tabCells := by
  rw [List.flatMap_append, List.flatMap_append, List.set_append_right _ _ (by rw [flat4]; omega), flat4]
  simp [tabCells]

set_option maxRecDepth 100000 in
set_option maxHeartbeats 8000000 in
theorem data_ref (s : ByteArray) (w : World) (hs : s.size ≤ 8192) : Calls Tryz.prog 7 #[.string s] w (DataPost s w) := by
  by_cases hlong : 4000 < s.size
  · have hlong' : (4000 : Int) < (s.size : Int) := by omega
    have HD := Lib.hid (show Bags.dataOf (bs s) = some 0 by unfold Bags.dataOf; rw [if_pos (by rw [bs_length]; exact hlong)])
    go_enter Tryz.func7, Tryz.ntmps7
    go_wp2_with fail
    go_ret2
    exact ⟨Below.refl _ _, _, _, rfl, by rw [HD.out]; rfl⟩
  · have hlong' : ¬ (4000 : Int) < (s.size : Int) := by omega
    have hdd : Bags.dataOf (bs s) = Bags.dataFrom 0 ⟨[], [], 0⟩ (Bags.linesOf (bs s)) := by unfold Bags.dataOf; rw [if_neg (by rw [bs_length]; exact hlong)]
    have HSP := Lib.hid (lines_ref s w (by omega))
    unfold LinesPost at HSP
    have HL := Lib.hid (And.intro (Bags.linesOf_length (bs s)) (Bags.linesOf_text (bs s)))
    have hsl := HL.out
    rw [bs_length] at hsl
    have HLT := Lib.hid hsl.2
    have hll := hsl.1
    generalize Bags.linesOf (bs s) = ls at *
    have HDD := Lib.hid hdd
    clear hdd hsl
    go_enter Tryz.func7, Tryz.ntmps7
    go_wp2_with fail
    refine HSP.out.mono ?_
    rintro e w2 ⟨hb2, v, rfl, hown⟩
    obtain ⟨ba, cap, rfl, hlc, hcm, hxx⟩ := own_form hown
    clear hxx
    unfold maxLen at hcm
    have HB2 := Lib.hid hb2
    have HOWN := Lib.hid hown
    clear hb2 hown
    go_wp2_with fail
    go_loopw [4, 6] (fun vO i wr => ∃ (k : Nat) (t : Bags.Tabs) (TS : List RT), i = .int .i64 k ∧ k ≤ ls.length ∧ Bags.dataFrom 0 ⟨[], [], 0⟩ ls = Bags.dataFrom k t (ls.drop k) ∧ wr.ownsRow w.heap.size 46 4 vO TS.length (TS.flatMap tabCells) ∧ TS.map (·.1) = t.names ∧
        LastRef wr w.heap.size t TS ∧ wr.ownsRow w.heap.size 9 1 (.slice ba ls.length cap) ls.length (ls.map strV) ∧ t.names.length ≤ 8 ∧ Below w.heap.size w wr) (fun _ i _ => ls.length - (intOf i).toNat)
    case atStart => exact ⟨0, ⟨[], [], 0⟩, [], rfl, by omega, rfl, ⟨rfl, .inl ⟨rfl, rfl⟩⟩, rfl, .inl rfl, HOWN.out, by simp, HB2.out⟩
    case round =>
      rename_i wr
      obtain ⟨k, t, TS, rfl, hk, hdf, hO, hTS, hlast, hoL, hn8, hbl⟩ := hrel
      have HDF := Lib.hid hdf
      have HBL := Lib.hid hbl
      have hsz := hbl.size
      obtain ⟨bO, pO, rfl, hO1, hO2, hOx⟩ := own_rows hO
      clear hOx
      unfold maxLen at hO2
      by_cases hlt : k < ls.length
      · have hlt' : (k : Int) < (ls.length : Int) := by omega
        obtain ⟨g, cap', hsl, _, _, hgl, hcl⟩ := row_get hoL (by omega)
        injection hsl with hb1 _ hb2
        subst hb1 hb2
        have c0 := hcl k hlt
        have htx := HLT.out ls[k] (List.getElem_mem _)
        have hs4 : s.size ≤ 4000 := by omega
        have hlk4 : ls[k].length ≤ 4000 := Nat.le_trans htx hs4
        have hpp := pieces_ref (tx ls[k]) wr (by rw [tx_size]; omega)
        unfold PiecesPost at hpp
        rw [bs_tx] at hpp
        have HPP := Lib.hid hpp
        have HST := Lib.hid (show Bags.dataFrom k t (ls.drop k) = match Bags.lineOne t ls[k] with | none => some (k + 1) | some t' => Bags.dataFrom (k + 1) t' (ls.drop (k + 1)) by
          rw [List.drop_eq_getElem_cons hlt]; rfl)
        have HO := Lib.hid hO
        have HTS := Lib.hid hTS
        have HLA := Lib.hid hlast
        have HOL := Lib.hid hoL
        clear hO hTS hlast hoL hbl hdf hpp hcl
        go_wp2_with fail
        refine HPP.out.mono ?_
        rintro e w3 ⟨hb3, h3⟩
        have HB3 := Lib.hid (HBL.out.trans (hb3.mono hsz))
        have HB3' := Lib.hid hb3
        clear hb3
        rcases h3 with ⟨hpn, v3, rfl⟩ | ⟨l, v3, hpl, rfl, hol⟩
        · have HNO := Lib.hid (show Bags.lineOne t ls[k] = none by unfold Bags.lineOne; rw [hpn])
          clear hpn
          go_wp2_with fail
          go_ret2
          exact ⟨HB3.out, _, _, rfl, by rw [HDD.out, HDF.out, HST.out, HNO.out]; simp [lineNum]⟩
        · have hpb := pieces_bound hpl
          have hO3 := own_later HO.out HB3'.out
          have hL3 := own_later HOL.out HB3'.out
          have hLA3 := HLA.out.later HB3'.out
          have hsz3 := HB3.out.size
          by_cases hnil : l.length = 0
          · have hl0 : l = [] := List.eq_nil_of_length_eq_zero hnil
            have hli : Bags.lineOne t ls[k] = some t := by unfold Bags.lineOne; rw [hpl, hl0]
            have HLI := Lib.hid hli
            have HF := Lib.hid (And.intro hO3 (And.intro hL3 hLA3))
            obtain ⟨b3, p3, rfl⟩ := own_slice hol
            have hz0 : (l.length : Int) = 0 := by omega
            clear hO3 hL3 hLA3 hli hpl hol hl0 hnil
            go_wp2_with fail
            exact ⟨⟨k + 1, t, TS, by simp, by omega, by rw [HDF.out, HST.out, HLI.out], HF.out.1, HTS.out, HF.out.2.2, HF.out.2.1, hn8, HB3.out⟩, by simp [intOf]; omega⟩
          · have h0 : 0 < l.length := by omega
            obtain ⟨g3, p3, rfl, hc31, hc32, hg3, hc3⟩ := row_get hol h0
            unfold maxLen at hc32
            have d0 := hc3 0 h0
            have hlen0 : (1 : Int) ≤ (l.length : Int) := by omega
            have hne0 : ((l.length : Int) == 0) = false := beq_eq_false_iff_ne.2 (by omega)
            have hll3 := hpb.2
            have HPB := Lib.hid (show ∀ p ∈ l, p ≠ [] ∧ p.length ≤ 4000 from fun p hp => ⟨(hpb.1 p hp).1, Nat.le_trans (hpb.1 p hp).2 hlk4⟩)
            have HF := Lib.hid (And.intro hO3 (And.intro hL3 hLA3))
            have HOL3 := Lib.hid hol
            have HC3 := Lib.hid hc3
            have HPL := Lib.hid hpl
            have hlli : (l.length : Int) ≤ 4000 := by have := Nat.le_trans hll3 hlk4; omega
            clear hO3 hL3 hLA3 hol hpl hpb hc3 hnil
            by_cases hta : l[0] = Bags.str "table"
            · have hw1 : ((tx l[0]).toList == [116, 97, 98, 108, 101]) = true := by rw [tx_toList, hta, str_table]; rfl
              have HLH := Lib.hid (line_head (t := t) HPL.out h0 hta)
              have HHD := Lib.hid (headed_ref l _ w3 _ HOL3.out (fun p hp => (HPB.out p hp).2))
              clear hta
              go_wp2_with fail
              refine HHD.out.mono ?_
              rintro e w4 ⟨hb4, nm, b1, n1, c1, b2, n2, c2, ok, rfl, h4⟩
              have HB4 := Lib.hid (HB3.out.trans (hb4.mono hsz3))
              have HB4' := Lib.hid hb4
              clear hb4
              have hsz4 := HB4.out.size
              have hO4 := own_later HF.out.1 HB4'.out
              have hL4 := own_later HF.out.2.1 HB4'.out
              have HTL := Lib.hid (show TS.length = t.names.length by rw [← HTS.out, List.length_map])
              have hts8 : TS.length ≤ 8 := by rw [HTL.out]; exact hn8
              rcases h4 with ⟨rfl, hh⟩ | ⟨rfl, kinds, cn, hh, rfl, hC, hT⟩
              · have HNO := Lib.hid (show Bags.lineOne t ls[k] = none by rw [HLH.out, hh])
                clear hh hO4 hL4
                go_wp2_with fail
                all_goals
                  go_ret2
                  exact ⟨HB4.out.alloc hsz4 _, _, _, rfl, by rw [HDD.out, HDF.out, HST.out, HNO.out]; simp [lineNum]⟩
              · have hl4 := head_len hh
                obtain ⟨hkc1, hkc6⟩ := head_cols hh
                have hg1 : l.getD 1 [] = l[1] := by rw [List.getD_eq_getElem?_getD]; simp [show 1 < l.length by omega]
                rw [hg1] at hh
                rw [hg1]
                have HLI := Lib.hid (show Bags.lineOne t ls[k] = if t.names.contains l[1] || t.names.length == 8 then none else some ⟨t.names ++ [l[1]], kinds, 0⟩ by rw [HLH.out, hh])
                have HO4 := Lib.hid hO4
                have HL4 := Lib.hid hL4
                have HCT := Lib.hid (And.intro hC hT)
                by_cases h8 : TS.length = 8
                · have h8' : ((TS.length : Int) == 8) = true := by simp; omega
                  have HNO := Lib.hid (show Bags.lineOne t ls[k] = none by rw [HLI.out, ← HTL.out, h8]; simp)
                  clear hh hO4 hL4 hC hT
                  go_wp2_with fail
                  all_goals
                    go_ret2
                    exact ⟨HB4.out.alloc hsz4 _, _, _, rfl, by rw [HDD.out, HDF.out, HST.out, HNO.out]; simp [lineNum]⟩
                · have h8' : ((TS.length : Int) == 8) = false := beq_eq_false_iff_ne.2 (by omega)
                  have h87 : TS.length ≤ 7 := by omega
                  have HFD := Lib.hid (fun W (h : W.ownsRow w.heap.size 46 4 (.slice bO TS.length pO) TS.length (TS.flatMap tabCells)) => find_ref TS _ l[1] W _ h)
                  rw [HTS.out] at HFD
                  have HYN := Lib.hid (And.intro (fun (h : t.names.contains l[1] = true) => show Bags.lineOne t ls[k] = none by rw [HLI.out, h]; rfl) (fun (h : t.names.contains l[1] = false) => show Bags.lineOne t ls[k] = some ⟨t.names ++ [l[1]], kinds, 0⟩ by
                    rw [HLI.out, h, show ((t.names.length == 8) : Bool) = false by rw [← HTL.out]; simpa using h8]; rfl))
                  clear hh hO4 hL4 hC hT h8
                  go_wp2_with fail
                  refine (HFD.out _ (HO4.out.alloc _)).mono ?_
                  rintro e w5 ⟨⟨r, rfl, hr⟩, rfl⟩
                  cases hct : t.names.contains l[1]
                  · rw [hct] at hr
                    have hr' : ¬ (0 : Int) ≤ r := by simpa using hr
                    have HYS := Lib.hid (HYN.out.2 hct)
                    clear hct hr
                    go_wp2_with (at_builtin; refine wpList_append_one rfl _ _ rfl (base := w.heap.size) elem_tabs rfl (HO4.out.alloc _) (cs := #[.string (tx l[1]), .slice b1 n1 c1, .slice b2 n2 c2, .slice none 0 0]) rfl (by simp) rfl (by simp [Value.oneCell']) (by unfold maxLen; omega) (by omega) (by simp; omega) ?_; intro v6 w6 hown6 hb6 hk6 hz6; have HK6 := Lib.hid (And.intro hown6 (And.intro hb6 (And.intro hk6 hz6))); clear hown6 hb6 hk6 hz6)
                    have keep := fun {e' : TypeId} {v' : Value} {n' : Nat} {xs : List Value} (h : w4.ownsRow w.heap.size e' 1 v' n' xs) (hne : e' ≠ 46) => own_keep (h.alloc _) HK6.out.2.2.1 (fun g h' e => own_ne_own (h.alloc (.cells #[.string (tx l[1]), .slice b1 n1 c1, .slice b2 n2 c2, .slice none 0 0] 46)) (HO4.out.alloc _) hne g h' e.symm)
                    exact ⟨⟨k + 1, ⟨t.names ++ [l[1]], kinds, 0⟩, TS ++ [(l[1], .slice b1 n1 c1, .slice b2 n2 c2, .slice none 0 0)], by simp, by omega, by rw [HDF.out, HST.out, HYS.out], by simpa [tabCells, List.flatMap_append] using HK6.out.1, by simp [HTS.out],
                      .inr ⟨TS, l[1], b1, n1, c1, b2, n2, c2, none, 0, 0, cn, [], rfl, hkc1, (show kinds.length ≤ 7 by omega), (show (0 : Nat) ≤ 12 by omega), keep (own_base HCT.out.1 hsz3) (by decide), keep (own_base HCT.out.2 hsz3) (by decide), ⟨rfl, .inl ⟨rfl, rfl⟩⟩⟩, keep HL4.out (by decide), (by have := HTL.out; simp; omega), (HB4.out.alloc hsz4 _).trans HK6.out.2.1⟩, by simp [intOf]; omega⟩
                  · rw [hct] at hr
                    have hr' : (0 : Int) ≤ r := by simpa using hr
                    have HNO := Lib.hid (HYN.out.1 hct)
                    clear hct hr
                    go_wp2_with fail
                    all_goals
                      go_ret2
                      exact ⟨HB4.out.alloc hsz4 _, _, _, rfl, by rw [HDD.out, HDF.out, HST.out, HNO.out]; simp [lineNum]⟩
            · have hw1 : ((tx l[0]).toList == [116, 97, 98, 108, 101]) = false := by rw [tx_toList, ← str_table]; simpa using hta
              by_cases hro : l[0] = Bags.str "row"
              · have hw2 : ((tx l[0]).toList == [114, 111, 119]) = true := by rw [tx_toList, hro, str_row]; rfl
                have HLR := Lib.hid (line_row (t := t) HPL.out h0 hro)
                have HTL := Lib.hid (show TS.length = t.names.length by rw [← HTS.out, List.length_map])
                clear hta hro
                rcases HF.out.2.2 with hnn | ⟨pre, nm, b1, n1, c1, b2, n2, c2, b3, n3, c3, cC, cR, hts, hk1, hk7, hr12, hC, hT, hR⟩
                · have hz : TS.length = 0 := by rw [HTL.out, hnn]; rfl
                  have hz' : (TS.length : Int) = 0 := by omega
                  have HNO := Lib.hid (show Bags.lineOne t ls[k] = none by rw [HLR.out, if_neg (fun h => h.1 hnn)])
                  clear hnn hz
                  go_wp2_with fail
                  all_goals
                    go_ret2
                    exact ⟨HB3.out, _, _, rfl, by rw [HDD.out, HDF.out, HST.out, HNO.out]; simp [lineNum]⟩
                · subst hts
                  obtain rfl := own_n hC
                  obtain rfl := own_n hT
                  obtain rfl := own_n hR
                  have hnn : t.names ≠ [] := by rw [← HTS.out]; simp
                  have hpre : (pre ++ [(nm, Value.slice b1 t.kinds.length c1, Value.slice b2 t.kinds.length c2, Value.slice b3 t.rows c3)]).length = pre.length + 1 := by simp
                  have hO3 := HF.out.1
                  rw [hpre] at hO3 hO1
                  obtain ⟨ba', cap'', hse, _, _, hOc⟩ := own_rows hO3
                  obtain ⟨gO, hgO, hgO2, hgO3, _, hOcell, hOfree⟩ := hOc (by omega)
                  injection hse with hb1 _ hb2
                  rw [hgO] at hb1
                  subst hb1 hb2
                  have o1 := hOcell (pre.length * 4 + 1) (by omega)
                  have o2 := hOcell (pre.length * 4 + 2) (by omega)
                  have o3 := hOcell (pre.length * 4 + 3) (by omega)
                  rw [tab_last _ _ _ (by omega)] at o1 o2 o3
                  simp [tabCells] at o1 o2 o3
                  rw [hpre]
                  have HC := Lib.hid hC
                  have HT := Lib.hid hT
                  have HR := Lib.hid hR
                  have HO3 := Lib.hid hO3
                  have HNN := Lib.hid hnn
                  have hpl8 : (pre.length : Int) ≤ 8 := by have := HTL.out; rw [hpre] at this; omega
                  have hplc : ((pre.length + 1 : Nat) : Int) - 1 = pre.length := by omega
                  clear hC hT hR hO3 hOc hOcell hOfree hnn
                  by_cases hlen : (l.length : Int) = (t.kinds.length : Int) + 1
                  · by_cases h12 : t.rows = 12
                    · have h12' : ((t.rows : Int) == 12) = true := by simp; omega
                      have hlenb : ((l.length : Int) != (t.kinds.length : Int) + 1) = false := by simpa using hlen
                      have HNO := Lib.hid (show Bags.lineOne t ls[k] = none by rw [HLR.out, if_neg (fun h => h.2.1 h12)])
                      go_wp2_with fail
                      all_goals
                        go_ret2
                        exact ⟨HB3.out, _, _, rfl, by rw [HDD.out, HDF.out, HST.out, HNO.out]; simp [lineNum]⟩
                    · have h12' : ((t.rows : Int) == 12) = false := beq_eq_false_iff_ne.2 (by omega)
                      have hlenb : ((l.length : Int) != (t.kinds.length : Int) + 1) = false := by simpa using hlen
                      go_wp2_with fail
                      obtain ⟨baT, capT, hse, hT1, hT2, hTc⟩ := own_form HT.out
                      obtain ⟨gT, hgT, hgT2, hxT, hTcell⟩ := hTc (by omega)
                      injection hse with hb1 _ hb2
                      rw [hgT] at hb1
                      subst hb1 hb2
                      unfold maxLen at hT2
                      have HTC := Lib.hid hTcell
                      clear hTc hTcell hxT
                      go_loopw [12, 13] (fun r c wz => ∃ (j : Nat) (xs : List Value), c = .int .i64 ((j : Int) + 1) ∧ j ≤ t.kinds.length ∧ wz.ownsRow w3.heap.size 52 3 r j xs ∧ (∀ i (h1 : i < j) (h2 : i + 1 < l.length) (h3 : i < t.kinds.length), Bags.valOK l[i + 1] t.kinds[i] = true) ∧ Below w3.heap.size w3 wz) (fun _ c _ => l.length + 1 - (intOf c).toNat)
                      case atStart => exact ⟨0, [], rfl, by omega, ⟨rfl, .inl ⟨rfl, rfl⟩⟩, fun j h => absurd h (by omega), Below.refl _ _⟩
                      case round =>
                        obtain ⟨j, xs, rfl, hj, hoX, hall, hbz⟩ := hrel
                        have HBZ := Lib.hid hbz
                        have HALL := Lib.hid hall
                        have hszz := hbz.size
                        have f2 := (hbz.cell (p := ⟨gO, pre.length * 4 + 2, none⟩) hgO2).trans o2
                        have f3 := (hbz.cell (p := ⟨gO, pre.length * 4 + 3, none⟩) hgO2).trans o3
                        by_cases hjl : j < t.kinds.length
                        · have hjl' : (j : Int) < (t.kinds.length : Int) := by omega
                          have hj2 : (j : Int) + 1 < (l.length : Int) := by omega
                          have hj1 : j + 1 < l.length := by omega
                          have f1 := (hbz.cell (p := ⟨g3, j + 1, none⟩) hg3).trans (HC3.out (j + 1) hj1)
                          have f4 := (hbz.cell (p := ⟨gT, j, none⟩) hgT2).trans (HTC.out j hjl)
                          have hx : (t.kinds.map fun x => Value.string (typS x))[j]? = some (.string (typS t.kinds[j])) := by simp [hjl]
                          rw [hx] at f4
                          have g1' := fun o => cell_alloc f1 o
                          have g2' := fun o => cell_alloc f2 o
                          have g4' := fun o => cell_alloc f4 o
                          have hwr : IntKind.i64.wrap ((j : Int) + 1 - 1) = (j : Int) := by rw [IntWalk.i64_left, w64 (by omega)]; omega
                          have hwr2 : IntKind.i64.wrap (j : Int) = (j : Int) := by rw [IntWalk.i64_left, w64 (by omega)]
                          have hj0 : (0 : Int) ≤ (j : Int) := by omega
                          have hj01 : (0 : Int) ≤ (j : Int) + 1 := by omega
                          have KK := Lib.hid (And.intro (Nat.lt_of_lt_of_le hg3 hszz) (And.intro (Nat.lt_of_lt_of_le hgO2 hszz) (Nat.lt_of_lt_of_le hgT2 hszz)))
                          have hp := HPB.out l[j + 1] (List.getElem_mem _)
                          have hval := fun W => value_ref (tx l[j + 1]) t.kinds[j] W (by rw [tx_size]; omega) (by rw [tx_size]; exact List.length_pos_iff.2 hp.1)
                          simp only [bs_tx] at hval
                          have HNOV := Lib.hid (fun (h : Bags.valOK l[j + 1] t.kinds[j] = false) => Bags.rowOK_no (l := l.drop 1) (kinds := t.kinds) (j := j) (by rw [List.length_drop]; omega) hjl (by rw [List.getElem_drop]; simpa [Nat.add_comm] using h))
                          have HALL2 := Lib.hid (fun (h : Bags.valOK l[j + 1] t.kinds[j] = true) => show ∀ i (h1 : i < j + 1) (h2 : i + 1 < l.length) (h3 : i < t.kinds.length), Bags.valOK l[i + 1] t.kinds[i] = true from fun i h1 h2 h3 => by
                            rcases Nat.lt_or_ge i j with h4 | h4
                            · exact HALL.out i h4 h2 h3
                            · obtain rfl : i = j := by omega
                              exact h)
                          have HV := Lib.hid hval
                          obtain ⟨bX, pX, hXe, hX1, hX2, hXx⟩ := own_rows hoX
                          subst hXe
                          have HOX := Lib.hid hoX
                          clear hoX hall hbz hval hx hXx
                          generalize Bags.valOK l[j + 1] t.kinds[j] = VB at *
                          generalize typS t.kinds[j] = tyS at *
                          go_upto_region 24 with fail
                          go_cut [14, 15] from 105 to 135 (fun p gd wx => ∃ (G : Nat) (a : ByteArray) (b : Int) (c : ByteArray), p = .pointer (some ⟨G, 0, none⟩) ∧ gd = .bool VB ∧ Blk wx G 52 #[.string a, .int .i64 b, .string c] ∧ Below wr.heap.size wr wx)
                          case first =>
                            go_region_held3 (fun w' => w'.cell? ⟨g3, j + 1, none⟩ = some (.string (tx l[j + 1])) ∧ w'.cell? ⟨gO, pre.length * 4 + 2, none⟩ = some (.slice (some ⟨gT, 0, none⟩) t.kinds.length c2) ∧ w'.cell? ⟨gT, j, none⟩ = some (.string tyS))
                              (first | exact ⟨f1, f2, f4⟩ | exact ⟨g1' _, g2' _, g4' _⟩ | exact ⟨(HBV.out.cell (p := ⟨g3, j + 1, none⟩) KK.out.1).trans f1, (HBV.out.cell (p := ⟨gO, pre.length * 4 + 2, none⟩) KK.out.2.1).trans f2, (HBV.out.cell (p := ⟨gT, j, none⟩) KK.out.2.2).trans f4⟩ | exact ⟨cell_alloc ((HBV.out.cell (p := ⟨g3, j + 1, none⟩) KK.out.1).trans f1) _, cell_alloc ((HBV.out.cell (p := ⟨gO, pre.length * 4 + 2, none⟩) KK.out.2.1).trans f2) _, cell_alloc ((HBV.out.cell (p := ⟨gT, j, none⟩) KK.out.2.2).trans f4) _⟩ | exact ⟨((below_set (below_set (below_set HBV.out (p := ⟨wr.heap.size, 0, none⟩) (Nat.le_refl _) _) (p := ⟨wr.heap.size, 1, none⟩) (Nat.le_refl _) _) (p := ⟨wr.heap.size, 2, none⟩) (Nat.le_refl _) _).cell (p := ⟨g3, j + 1, none⟩) KK.out.1).trans f1, ((below_set (below_set (below_set HBV.out (p := ⟨wr.heap.size, 0, none⟩) (Nat.le_refl _) _) (p := ⟨wr.heap.size, 1, none⟩) (Nat.le_refl _) _) (p := ⟨wr.heap.size, 2, none⟩) (Nat.le_refl _) _).cell (p := ⟨gO, pre.length * 4 + 2, none⟩) KK.out.2.1).trans f2, ((below_set (below_set (below_set HBV.out (p := ⟨wr.heap.size, 0, none⟩) (Nat.le_refl _) _) (p := ⟨wr.heap.size, 1, none⟩) (Nat.le_refl _) _) (p := ⟨wr.heap.size, 2, none⟩) (Nat.le_refl _) _).cell (p := ⟨gT, j, none⟩) KK.out.2.2).trans f4⟩ | go_keep)
                              (first | (go_at_call 17; refine (HV.out _).mono ?_; rintro e wv ⟨⟨a, b, c, rfl⟩, hbv⟩; (first | (have hz0 := (Blk.made wr 52 #[.string ⟨#[]⟩, .int .i64 0, .string ⟨#[]⟩]).drew.later hbv; have y0 := hz0.cell 0; have y1 := hz0.cell 1; have y2 := hz0.cell 2; have x0 := hz0.free 0; have x1 := hz0.free 1; have x2 := hz0.free 2; simp at y0 y1 y2; have HZ0 := Lib.hid hz0; clear hz0; have HBV := Lib.hid ((((Below.refl _ wr).alloc (Nat.le_refl _) _).drew).trans (hbv.mono (by simp))); clear hbv) | (have HBV := Lib.hid hbv; clear hbv))))
                            all_goals
                              go_wp2_with fail
                              go_meet
                              case rel => first
                                | exact ⟨_, a, b, c, rfl, rfl, by simpa using ((HZ0.out.put 0 (.string a)).put 1 (.int .i64 b)).put 2 (.string c), (below_set (below_set (below_set HBV.out (p := ⟨wr.heap.size, 0, none⟩) (Nat.le_refl _) _) (p := ⟨wr.heap.size, 1, none⟩) (Nat.le_refl _) _) (p := ⟨wr.heap.size, 2, none⟩) (Nat.le_refl _) _)⟩
                                | exact ⟨_, a, b, c, rfl, rfl, Blk.made _ _ _, (((Below.refl wr.heap.size wr).drew).trans (HBV.out.alloc HBV.out.size _))⟩
                          case rest =>
                            obtain ⟨G, a, b, c, rfl, rfl, hbG, hbX⟩ := hcut
                            have y0 := hbG.cell 0
                            have y1 := hbG.cell 1
                            have y2 := hbG.cell 2
                            simp at y0 y1 y2
                            have hoX4 := own_later HOX.out hbX
                            have HBW := Lib.hid (HBZ.out.trans (hbX.mono hszz))
                            have hszx := HBW.out.size
                            clear hbG hbX
                            cases VB
                            · have HNO := Lib.hid (show Bags.lineOne t ls[k] = none by
                                rw [HLR.out, if_neg (fun h => by have h3 := h.2.2; rw [HNOV.out rfl] at h3; cases h3)])
                              go_wp2_with fail
                              all_goals
                                go_ret2
                                exact ⟨HB3.out.trans (HBW.out.mono hsz3), _, _, rfl, by rw [HDD.out, HDF.out, HST.out, HNO.out]; simp [lineNum]⟩
                            · go_wp2_with (at_builtin; refine wpList_append_one rfl _ _ rfl (base := w3.heap.size) elem_rvals rfl hoX4 (cs := #[.string a, .int .i64 b, .string c]) rfl rfl rfl (by simp [Value.oneCell']) (by unfold maxLen; omega) (by omega) hszx ?_; intro v5 w5 hown5 hb5 _ hz5)
                              exact ⟨⟨j + 1, _, by simp, by omega, hown5, HALL2.out rfl, HBW.out.trans hb5⟩, by simp [intOf]; omega⟩
                        · obtain rfl : j = t.kinds.length := by omega
                          have hjl' : ¬ (t.kinds.length : Int) + 1 < (l.length : Int) := by omega
                          have HY := Lib.hid (show Bags.lineOne t ls[k] = some ⟨t.names, t.kinds, t.rows + 1⟩ by
                            rw [HLR.out, if_pos ⟨HNN.out, h12, Bags.rowOK_yes (by rw [List.length_drop]; omega) (fun i h1 h2 => by
                              rw [List.getElem_drop]
                              have := HALL.out i (by omega) (by omega) h2
                              simpa [Nat.add_comm] using this)⟩])
                          obtain ⟨bX, pX, rfl, _, _, _⟩ := own_rows hoX
                          have HRR := Lib.hid (own_later HR.out hbz)
                          have HCC := Lib.hid (own_later HC.out hbz)
                          have HTT := Lib.hid (own_later HT.out hbz)
                          have HOO := Lib.hid (own_later HO3.out hbz)
                          have HLL := Lib.hid (own_later HF.out.2.1 hbz)
                          have hszw : w.heap.size ≤ wr.heap.size := by omega
                          clear hoX hall hbz
                          go_wp2_with (at_builtin; refine wpList_append_one rfl _ _ rfl (base := w.heap.size) elem_rrows rfl HRR.out (cs := #[.slice bX t.kinds.length pX]) rfl rfl rfl (by simp [Value.oneCell']) (by unfold maxLen; omega) (by omega) hszw ?_; intro v5 w5 hown5 hb5 hk5 hz5; obtain ⟨b5, p5, rfl⟩ := own_slice hown5; have HO5 := Lib.hid (own_keep HOO.out hk5 (fun g h e => own_ne_own HOO.out HRR.out (by decide) g h e.symm)); have HK5 := Lib.hid (And.intro hown5 (And.intro hb5 (And.intro hk5 hz5))); clear hown5 hb5 hk5 hz5; obtain ⟨ba5, cap5, hse5, _, _, hOc5⟩ := own_rows HO5.out; obtain ⟨gO5, hgO5, _, _, _, hOcell5, hOfree5⟩ := hOc5 (by omega); injection hse5 with hb51 _ hb52; rw [hgO5] at hb51; injection hb51 with hb51; injection hb51 with hb51; subst hb51 hb52; have u3 := hOcell5 (pre.length * 4 + 3) (by omega); have u4 := hOfree5 (pre.length * 4 + 3); rw [tab_last _ _ _ (by omega)] at u3; simp [tabCells] at u3; clear hOc5 hOcell5 hOfree5)
                          have keep := fun {e' : TypeId} {v' : Value} {n' : Nat} {xs : List Value} (h : wr.ownsRow w.heap.size e' 1 v' n' xs) (hne : e' ≠ 50) (hne2 : e' ≠ 46) => own_set (own_keep h HK5.out.2.2.1 (fun g h' e => own_ne_own h HRR.out hne g h' e.symm)) (p := ⟨gO, pre.length * 4 + 3, none⟩) (fun h' => own_ne_own h HOO.out hne2 gO h' (by simp [Value.ownBlock])) (.slice b5 (t.rows + 1) p5)
                          have hp5 := own_put HO5.out (i := pre.length * 4 + 3) (by omega) (.slice b5 (t.rows + 1) p5)
                          rw [tab_set] at hp5
                          exact ⟨⟨k + 1, ⟨t.names, t.kinds, t.rows + 1⟩, pre ++ [(nm, .slice b1 t.kinds.length c1, .slice (some ⟨gT, 0, none⟩) t.kinds.length c2, .slice b5 (t.rows + 1) p5)], by simp, by omega, by rw [HDF.out, HST.out, HY.out], by simpa using hp5, by simpa using HTS.out,
                            .inr ⟨pre, nm, b1, t.kinds.length, c1, _, t.kinds.length, c2, b5, t.rows + 1, p5, cC, _, rfl, hk1, hk7, (show t.rows + 1 ≤ 12 by omega), keep HCC.out (by decide) (by decide), keep HTT.out (by decide) (by decide), own_set HK5.out.1 (p := ⟨gO, pre.length * 4 + 3, none⟩) (fun h' => own_ne_own HK5.out.1 HO5.out (by decide) gO h' (by simp [Value.ownBlock])) _⟩, keep HLL.out (by decide) (by decide), hn8,
                            below_set ((HB3.out.trans (HBZ.out.mono hsz3)).trans HK5.out.2.1) (p := ⟨gO, pre.length * 4 + 3, none⟩) hgO3 _⟩, by simp [intOf]; omega⟩
                  · have hlenb : ((l.length : Int) != (t.kinds.length : Int) + 1) = true := by simpa using hlen
                    have HNO := Lib.hid (show Bags.lineOne t ls[k] = none by
                      rw [HLR.out, if_neg (fun h => by
                        have h3 := h.2.2
                        unfold Bags.rowOK at h3
                        rw [decide_eq_false (by rw [List.length_drop]; omega)] at h3
                        cases h3)])
                    clear hlen
                    go_wp2_with fail
                    all_goals
                      go_ret2
                      exact ⟨HB3.out, _, _, rfl, by rw [HDD.out, HDF.out, HST.out, HNO.out]; simp [lineNum]⟩
              · have hw2 : ((tx l[0]).toList == [114, 111, 119]) = false := by rw [tx_toList, ← str_row]; simpa using hro
                have HNO := Lib.hid (line_none (t := t) HPL.out h0 hta hro)
                clear hta hro
                go_wp2_with fail
                all_goals
                  go_ret2
                  exact ⟨HB3.out, _, _, rfl, by rw [HDD.out, HDF.out, HST.out, HNO.out]; simp [lineNum]⟩
      · have hlt' : ¬ (k : Int) < (ls.length : Int) := by omega
        have HE := Lib.hid (show Bags.dataFrom k t (ls.drop k) = none by rw [List.drop_of_length_le (by omega)]; rfl)
        clear hO hTS hlast hoL hbl hdf
        go_wp2_with fail
        go_ret2
        exact ⟨HBL.out, _, _, rfl, by rw [HDD.out, HDF.out, HE.out]; rfl⟩
end Go.Proofs.YtoephflcjllaaaaGreatDoor
