/- Walk of the reference: headed. -/
import Derived.Test.YtoephflcjllaaaaGreatDoorOT
import Derived.Deep.RegionLaw
import Derived.Deep.CutRange
namespace Go.Proofs.YtoephflcjllaaaaGreatDoor
open Go.RowKit

theorem row_get {w : World} {base : Nat} {v : Value} {l : List Bags.Str} (hr : w.ownsRow base 9 1 v l.length (l.map strV)) (h0 : 0 < l.length) :
    ∃ g cap, v = .slice (some ⟨g, 0, none⟩) l.length cap ∧ l.length ≤ cap ∧ cap ≤ maxLen ∧ g < w.heap.size ∧ ∀ i (h : i < l.length), w.cell? ⟨g, i, none⟩ = some (.string (tx l[i])) := by
  obtain ⟨ba, cap, rfl, hn, hcap, hc⟩ := own_form hr
  obtain ⟨g, rfl, hg, _, hc⟩ := hc h0
  refine ⟨g, cap, rfl, hn, hcap, hg, fun i h => ?_⟩
  rw [hc i h]
  simp [strV, h]
theorem own_slice {w : World} {base : Nat} {e : TypeId} {v : Value} {n : Nat} {xs : List Value} (h : w.ownsRow base e 1 v n xs) : ∃ ba cap, v = .slice ba n cap := by
  obtain ⟨ba, cap, h, _⟩ := own_form h; exact ⟨ba, cap, h⟩
theorem own_ne_blk {w : World} {base : Nat} {e t : TypeId} {size n : Nat} {v : Value} {xs : List Value} (h : w.ownsRow base e size v n xs) {g : Nat} {cs : Array Value} (hb : Blk w g t cs) (hne : e ≠ t) : v.ownBlock ≠ some g := by
  intro hg
  obtain ⟨_, h2⟩ := h
  rcases h2 with ⟨rfl, _⟩ | ⟨g', cap, cur, rfl, h3, h4, _⟩
  · simp [Value.ownBlock] at hg
  · simp [Value.ownBlock] at hg; subst hg
    unfold Blk at hb
    rw [hb] at h4
    injection h4 with h4
    injection h4 with _ h5
    exact hne h5.symm
theorem grown_blk {w w' : World} {base : Nat} {e t : TypeId} {size n : Nat} {v : Value} {xs : List Value} {g : Nat} {cs : Array Value} (h : w.ownsRow base e size v n xs) (hb : Blk w g t cs) (hg : w.grownBy w' v.ownBlock) (hne : e ≠ t) : Blk w' g t cs :=
  hb.grown hg (Ne.symm (own_ne_blk h hb hne))
theorem own_grown {w w' : World} {base : Nat} {e : TypeId} {size n : Nat} {v : Value} {xs : List Value} (h : w.ownsRow base e size v n xs) {row : Option Nat} (hg : w.grownBy w' row) (hne : ∀ g, v.ownBlock = some g → row ≠ some g) : w'.ownsRow base e size v n xs := by
  obtain ⟨h1, h2⟩ := h
  refine ⟨h1, ?_⟩
  rcases h2 with h2 | ⟨g, cap, cur, rfl, h3, h4, h5⟩
  · exact .inl h2
  · exact .inr ⟨g, cap, cur, rfl, h3, (hg.block g (lt_of_some h4) (fun e => hne g rfl e.symm)).trans h4, h5⟩

/-! ### A field's row, appended to -/
theorem own_drew {w : World} {base : Nat} {e : TypeId} {size n : Nat} {v : Value} {xs : List Value} (h : w.ownsRow base e size v n xs) : w.drew.ownsRow base e size v n xs := h

theorem own_set {w : World} {base : Nat} {e : TypeId} {size n : Nat} {v : Value} {xs : List Value} (h : w.ownsRow base e size v n xs) {p : Addr} (hp : v.ownBlock ≠ some p.block) (u : Value) : (w.setCell p u).ownsRow base e size v n xs := by
  obtain ⟨h1, h2⟩ := h
  refine ⟨h1, ?_⟩
  rcases h2 with h2 | ⟨g, cap, cur, rfl, h3, h4, h5⟩
  · exact .inl h2
  · exact .inr ⟨g, cap, cur, rfl, h3, (Below.heap_setCell w p u g (fun e => hp (by simp [Value.ownBlock, e]))).trans h4, h5⟩
section
variable {wc w3 : World} {o : Obj} {base T : Nat} {e t : TypeId} {size n : Nat} {v : Value} {xs : List Value} {cs : Array Value}
theorem fa_self (h : wc.ownsRow base e size v n xs) (hT : Blk wc T t cs) (hg : (wc.alloc o).drew.grownBy w3 v.ownBlock) (hne : e ≠ t) (i : Nat) (u : Value) : Blk (w3.setCell ⟨T, i, none⟩ u) T t (cs.setIfInBounds i u) :=
  (grown_blk (own_drew (h.alloc o)) (hT.alloc o).drew hg hne).put i u
theorem fa_blk (h : wc.ownsRow base e size v n xs) {g : Nat} {t' : TypeId} {cs' : Array Value} (hb : Blk wc g t' cs') (hg : (wc.alloc o).drew.grownBy w3 v.ownBlock) (hne : e ≠ t') (hgT : g ≠ T) (i : Nat) (u : Value) : Blk (w3.setCell ⟨T, i, none⟩ u) g t' cs' :=
  (grown_blk (own_drew (h.alloc o)) (hb.alloc o).drew hg hne).far hgT u
theorem fa_own (h : wc.ownsRow base e size v n xs) (hT : Blk wc T t cs) (hg : (wc.alloc o).drew.grownBy w3 v.ownBlock) (hne : e ≠ t) {v' : Value} {n' : Nat} {ys : List Value} (h3 : w3.ownsRow base e size v' n' ys) (i : Nat) (u : Value) : (w3.setCell ⟨T, i, none⟩ u).ownsRow base e size v' n' ys :=
  own_set h3 (own_ne_blk h3 (grown_blk (own_drew (h.alloc o)) (hT.alloc o).drew hg hne) hne) u
theorem fa_other (_h : wc.ownsRow base e size v n xs) (hT : Blk wc T t cs) (hg : (wc.alloc o).drew.grownBy w3 v.ownBlock) {base' : Nat} {e' : TypeId} {size' n' : Nat} {v' : Value} {ys : List Value} (hne : e' ≠ t) (h' : wc.ownsRow base' e' size' v' n' ys) (hd : ∀ g, v.ownBlock = some g → v'.ownBlock ≠ some g) (i : Nat) (u : Value) :
    (w3.setCell ⟨T, i, none⟩ u).ownsRow base' e' size' v' n' ys :=
  own_set (own_grown (own_drew (h'.alloc o)) hg (fun g hg' e => hd g e hg')) (own_ne_blk h' hT hne) u
theorem fa_apart {v' vO : Value} {base' : Nat} {e' : TypeId} {size' n' : Nat} {ys : List Value} (h' : wc.ownsRow base' e' size' vO n' ys) (hat : v'.ownBlock = v.ownBlock ∨ v'.ownBlock = some (wc.alloc o).drew.heap.size) (hd : ∀ g, v.ownBlock = some g → vO.ownBlock ≠ some g) : ∀ g, v'.ownBlock = some g → vO.ownBlock ≠ some g := by
  intro g hg hO
  rcases hat with hat | hat
  · exact hd g (hat ▸ hg) hO
  · have h1 := (own_size h' hO).1
    rw [hat] at hg
    injection hg with hg
    have h2 : (wc.alloc o).drew.heap.size = wc.heap.size + 1 := by simp [World.drew]
    omega
theorem fa_below {w0 : World} {B : Nat} (hb : Below B w0 wc) (hB : B ≤ wc.heap.size) (h : wc.ownsRow base e size v n xs) (hbase : B ≤ base) (hg : (wc.alloc o).drew.grownBy w3 v.ownBlock) (hT : B ≤ T) (i : Nat) (u : Value) : Below B w0 (w3.setCell ⟨T, i, none⟩ u) := by
  have h1 : Below B wc (wc.alloc o).drew := ((Below.refl B wc).alloc hB o).trans ⟨rfl, rfl, rfl, Nat.le_refl _, fun _ _ => rfl⟩
  refine (hb.trans h1).trans ⟨hg.os, hg.tape, hg.output, ?_, fun k hk => ?_⟩
  · simpa [World.setCell] using hg.size
  · refine (Below.heap_setCell w3 ⟨T, i, none⟩ u k (by simp; omega)).trans (hg.block k ?_ ?_)
    · have := h1.size; omega
    · intro e; have := (own_size h e.symm).2; omega
end
theorem typS_tx (t : Bool) : tx (if t = true then Bags.str "text" else Bags.str "int") = typS t := by
  apply bs_inj; cases t <;> decide
theorem isName_refP (s : Bags.Str) (w : World) (hs : s.length ≤ 4000) : Calls Tryz.prog 34 #[.string (tx s)] w fun e w' => e = .returned (.bool (Bags.nameP s)) ∧ w = w' := by
  have := isName_ref (tx s) w (by rw [tx_size]; omega)
  rwa [bs_tx, Bags.nameIn_eq] at this

/-- What headed answers. -/
def HeadedPost (l : List Bags.Str) (w : World) (e : Ending) (w' : World) : Prop :=
  Below w.heap.size w w' ∧ ∃ (nm : ByteArray) (b1 : Option Addr) (n1 c1 : Nat) (b2 : Option Addr) (n2 c2 : Nat) (ok : Bool), e = .returned (.tuple #[.agg #[.string nm, .slice b1 n1 c1, .slice b2 n2 c2, .slice none 0 0], .bool ok]) ∧
    ((ok = false ∧ Bags.headOf l = none) ∨ (ok = true ∧ ∃ (kinds : List Bool) (cn : List Value), Bags.headOf l = some (l.getD 1 [], kinds) ∧ nm = tx (l.getD 1 []) ∧
      w'.ownsRow w.heap.size 9 1 (.slice b1 n1 c1) kinds.length cn ∧ w'.ownsRow w.heap.size 9 1 (.slice b2 n2 c2) kinds.length (kinds.map fun t => .string (typS t))))

set_option maxRecDepth 100000 in
set_option maxHeartbeats 8000000 in
theorem headed_ref (l : List Bags.Str) (v : Value) (w : World) (base : Nat) (hr : w.ownsRow base 9 1 v l.length (l.map strV)) (hl : ∀ p ∈ l, p.length ≤ 4000) :
    Calls Tryz.prog 15 #[v] w (HeadedPost l w) := by
  by_cases hbad : l.length < 4 ∨ l.length % 2 = 1 ∨ 14 < l.length
  · have hno : Bags.headOf l = none := by unfold Bags.headOf; rw [if_pos hbad]
    obtain ⟨ba, cap, rfl⟩ := own_slice hr
    have HNO := Lib.hid hno
    clear hno
    clear hr
    rcases (show ((l.length : Int) < 4) ∨ ((4 : Int) ≤ l.length ∧ (l.length : Int) % 2 = 1) ∨ ((4 : Int) ≤ l.length ∧ (l.length : Int) % 2 = 0 ∧ (14 : Int) < l.length) by omega) with h1 | ⟨h1, h2⟩ | ⟨h1, h2, h3⟩
    all_goals
      go_enter Tryz.func15, Tryz.ntmps15
      go_wp2_with fail
      refine bodyPost_ret (results_cell_two rfl _ _ _ 46 _ (0, 0) _ rfl (Blk.made _ _ _) rfl rfl rfl) rfl ⟨(Below.refl _ _).alloc (Nat.le_refl _) _, _, _, _, _, _, _, _, _, rfl, .inl ⟨rfl, HNO.out⟩⟩
  · obtain ⟨g, cap, rfl, hcap1, hcap2, hg, hc⟩ := row_get hr (by omega)
    unfold maxLen at hcap2
    have c1 := hc 1 (by omega)
    have hg1 : l.getD 1 [] = l[1] := by rw [List.getD_eq_getElem?_getD]; simp [show 1 < l.length by omega]
    have hp1 := hl l[1] (List.getElem_mem _)
    have HN1 := Lib.hid (fun W => isName_refP l[1] W hp1)
    have g1 : (4 : Int) ≤ l.length := by omega
    have g2 : (l.length : Int) ≤ 14 := by omega
    have g3 : (l.length : Int) % 2 = 0 := by omega
    have f1 := fun o => cell_alloc c1 o
    have HC := Lib.hid hc
    have HR := Lib.hid hr
    clear hc hr
    go_enter Tryz.func15, Tryz.ntmps15
    go_wp2_with fail
    refine (HN1.out _).mono ?_
    rintro e w1 ⟨rfl, rfl⟩
    go_wp2_with fail
    go_loopw [5, 7] (fun ok i wr => ∃ (k : Nat) (b : Bool) (names types : List Bags.Str) (vC vT : Value), i = .int .i64 k ∧ ok = .bool b ∧ k ≤ l.length ∧ HSeen l k b names types ∧
        Blk wr w.heap.size 46 #[.string ⟨#[]⟩, .slice none 0 0, .slice none 0 0, .slice none 0 0] ∧ Blk wr (w.heap.size + 1) 46 #[.string (tx l[1]), vC, vT, .slice none 0 0] ∧
        wr.ownsRow w.heap.size 9 1 vC names.length (names.map strV) ∧ wr.ownsRow w.heap.size 9 1 vT types.length (types.map strV) ∧ (∀ g, vC.ownBlock = some g → vT.ownBlock ≠ some g) ∧ Below w.heap.size w wr) (fun _ i _ => l.length - (intOf i).toNat)
    case atStart => exact ⟨2, _, [], [], .slice none 0 0, .slice none 0 0, rfl, rfl, by omega, hg1 ▸ HSeen.start l, (Blk.made _ _ _).alloc _, Blk.made' (by simp) _ _, ⟨rfl, .inl ⟨rfl, rfl⟩⟩, ⟨rfl, .inl ⟨rfl, rfl⟩⟩, by simp [Value.ownBlock], ((Below.refl _ _).alloc (Nat.le_refl _) _).alloc (by simp) _⟩
    case round =>
      rename_i wr
      obtain ⟨k, b, names, types, vC, vT, rfl, rfl, hk, hs, hbR, hbT, hoC, hoT, hne, hbl⟩ := hrel
      have HS := Lib.hid hs
      have HBL := Lib.hid hbl
      have hsz := hbl.size
      by_cases hlt : k < l.length
      · have hk1 : k + 1 < l.length := by obtain ⟨q1, q2, _⟩ := hs; omega
        have hnl : names.length ≤ 7 := by obtain ⟨q1, q2, _⟩ := hs; omega
        have htl : types.length ≤ 7 := by obtain ⟨q1, q2, _⟩ := hs; omega
        clear hs
        have hlt' : (k : Int) < (l.length : Int) := by omega
        have hk1' : (k : Int) + 1 < (l.length : Int) := by omega
        obtain ⟨bC, pC, rfl⟩ := own_slice hoC
        obtain ⟨bT, pT, rfl⟩ := own_slice hoT
        have d0 := (hbl.cell (p := ⟨g, k, none⟩) hg).trans (HC.out k hlt)
        have d1 := (hbl.cell (p := ⟨g, k + 1, none⟩) hg).trans (HC.out (k + 1) hk1)
        have HN2 := Lib.hid (fun W => isName_refP l[k] W (hl l[k] (List.getElem_mem _)))
        have HH := Lib.hid (fun m => (has_ref names _ (tx l[k]) (World.drewN wr m) _ hoC).mono (R' := fun e w' => e = .returned (.bool (names.contains l[k])) ∧ w' = World.drewN wr m) fun _ _ h => ⟨by rw [h.1, bs_tx], h.2.symm⟩)
        have hx := HS.out.step hk1
        have e1 : ((tx l[k + 1]).toList == [105, 110, 116]) = (l[k + 1] == Bags.str "int") := by rw [str_int, tx_toList]
        have e2 : ((tx l[k + 1]).toList == [116, 101, 120, 116]) = (l[k + 1] == Bags.str "text") := by rw [str_text, tx_toList]
        generalize (l[k + 1] == Bags.str "int") = T1 at *
        generalize (l[k + 1] == Bags.str "text") = T2 at *
        generalize Bags.nameP l[k] = B2 at *
        generalize names.contains l[k] = B3 at *
        have HX := Lib.hid hx
        have t1 := hbT.cell 1
        simp at t1
        clear hx
        go_wp2_with fail
        refine (HN2.out _).mono ?_
        rintro e w1 ⟨rfl, rfl⟩
        go_wp2_with fail
        go_quiet ((go_at_call 35; refine Calls.quiet_of_same (HH.out _)))
        rename_i nq
        have hbR2 := hbR.drewN nq
        have hbT2 := hbT.drewN nq
        have hoC2 : (World.drewN wr nq).ownsRow _ _ _ _ _ _ := hoC
        have hoT2 : (World.drewN wr nq).ownsRow _ _ _ _ _ _ := hoT
        have hbl2 : Below w.heap.size w (World.drewN wr nq) := HBL.out.trans ⟨rfl, rfl, rfl, Nat.le_refl _, fun _ _ => rfl⟩
        generalize World.drewN wr nq = w2 at *
        have hsz2 := hbl2.size
        have HT2 := Lib.hid hbT2
        have HR2 := Lib.hid hbR2
        have HOC := Lib.hid hoC2
        have HOT := Lib.hid hoT2
        have HBL2 := Lib.hid hbl2
        have d1 := (hbl2.cell (p := ⟨g, k + 1, none⟩) hg).trans (HC.out (k + 1) hk1)
        clear hbR hbT hoC hoT hbT2 hbR2 hoC2 hoT2 hbl2 hbl HH HN2 t1
        go_upto_region 11 with fail
        go_cut [5, 8, 9] from 32 to 91 (fun o _ _ wx => o = .bool (b && (B2 && !B3 && (T1 || T2))) ∧ wx = w2)
        case first =>
          go_wp2_with fail
          all_goals
            go_meet
            case rel => exact ⟨by simp [*], rfl⟩
        case rest =>
          obtain ⟨rfl, rfl⟩ := hcut
          have HX2 := HX
          clear HX
          generalize (b && (B2 && !B3 && (T1 || T2))) = OK at *
          clear e1 e2 d1
          have d0 := (HBL2.out.cell (p := ⟨g, k, none⟩) hg).trans (HC.out k hlt)
          have t1 := HT2.out.cell 1
          have t1' := fun o => (HT2.out.alloc o).cell 1
          have d0' := fun o => cell_alloc d0 o
          simp at t1 t1'
          go_upto_region 12 with fail
          go_cut [5] from 32 to 91 (fun o wx => o = .bool OK ∧ ∃ vC3 : Value, Blk wx (w.heap.size + 1) 46 #[.string (tx l[1]), vC3, .slice bT types.length pT, .slice none 0 0] ∧ wx.ownsRow w.heap.size 9 1 vC3 (names.length + 1) (names.map strV ++ [.string (tx l[k])]) ∧
              wx.ownsRow w.heap.size 9 1 (.slice bT types.length pT) types.length (types.map strV) ∧ (∀ g, vC3.ownBlock = some g → (Value.slice bT types.length pT).ownBlock ≠ some g) ∧ Blk wx w.heap.size 46 #[.string ⟨#[]⟩, .slice none 0 0, .slice none 0 0, .slice none 0 0] ∧ Below w.heap.size w wx)
          case first =>
            go_region_law ((refine step_append_one rfl (.tmp 74) (.tmp 79) rfl elem_strs rfl (own_drew (HOC.out.alloc _)) rfl (Blk.made wc _ _).drew rfl ?_ ?_ ?_ ?_ ?_); (simp [Value.oneCell']); (unfold maxLen; omega); (omega); (first | (simp; done) | (simp; omega)); (intro v3 w3 hown3 hg3 hat3); (obtain ⟨bC3, pC3, rfl⟩ := own_slice hown3); (have hT3 := grown_blk (own_drew (HOC.out.alloc _)) (HT2.out.alloc _).drew hg3 (by decide)); (have HT3 := Lib.hid hT3); (have HO3 := Lib.hid hown3); (have HG3 := Lib.hid (And.intro hg3 hat3)); (have u1 := hT3.cell 1); (have u2 := hT3.free 1); (simp at u1); (clear hT3 hown3 hg3 hat3))
            all_goals
              go_wp2_with fail
              go_meet
              case rel => exact ⟨rfl, _, by simpa using fa_self HOC.out HT2.out HG3.out.1 (by decide) 1 (.slice bC3 (names.length + 1) pC3), fa_own HOC.out HT2.out HG3.out.1 (by decide) HO3.out 1 _, fa_other HOC.out HT2.out HG3.out.1 (by decide) HOT.out hne 1 _, fa_apart HOT.out HG3.out.2 hne, fa_blk HOC.out HR2.out HG3.out.1 (by decide) (by omega) 1 _, fa_below HBL2.out (by omega) HOC.out (Nat.le_refl _) HG3.out.1 (by omega) 1 _⟩
          case rest =>
            obtain ⟨rfl, vC, hT4, hC4, hO4, hne4, hR4, hbl4⟩ := hcut
            obtain ⟨bC4, pC4, rfl⟩ := own_slice hC4
            rename_i wz
            have hszz := hbl4.size
            have HT4 := Lib.hid hT4
            have HC4 := Lib.hid hC4
            have HO4 := Lib.hid hO4
            have HR4 := Lib.hid hR4
            have HBL4 := Lib.hid hbl4
            have d1 := (hbl4.cell (p := ⟨g, k + 1, none⟩) hg).trans (HC.out (k + 1) hk1)
            have hwr : IntKind.i64.wrap ((k : Int) + 1) = (k : Int) + 1 := by rw [IntWalk.i64_left, w64 (by omega)]
            have hk0 : (0 : Int) ≤ (k : Int) + 1 := by omega
            have t2 := hT4.cell 2
            have t2' := fun o => (hT4.alloc o).cell 2
            have d1' := fun o => cell_alloc d1 o
            simp at t2 t2'
            clear hT4 hC4 hO4 hR4 hbl4
            go_wp2_with fail
            go_region_law ((refine step_append_one rfl (.tmp 83) (.tmp 89) rfl elem_strs rfl (own_drew (HO4.out.alloc _)) rfl (Blk.made wc _ _).drew rfl ?_ ?_ ?_ ?_ ?_); (simp [Value.oneCell']); (unfold maxLen; omega); (omega); (first | (simp; done) | (simp; omega)); (intro v3 w3 hown3 hg3 hat3); (obtain ⟨bC3, pC3, rfl⟩ := own_slice hown3); (have hT3 := grown_blk (own_drew (HO4.out.alloc _)) (HT4.out.alloc _).drew hg3 (by decide)); (have HT3 := Lib.hid hT3); (have HO3 := Lib.hid hown3); (have HG3 := Lib.hid (And.intro hg3 hat3)); (have u1 := hT3.cell 2); (have u2 := hT3.free 2); (simp at u1); (clear hT3 hown3 hg3 hat3))
            all_goals
              go_wp2_with fail
              have HT5 := Lib.hid (fa_self HO4.out HT4.out HG3.out.1 (by decide) 2 (.slice bC3 (types.length + 1) pC3))
              exact ⟨⟨k + 2, OK, names ++ [l[k]], types ++ [l[k + 1]], _, _, by simp, rfl, by omega, HX2.out, fa_blk HO4.out HR4.out HG3.out.1 (by decide) (by omega) 2 _, by simpa using HT5.out, by simpa [strV] using fa_other HO4.out HT4.out HG3.out.1 (by decide) HC4.out (fun g h1 h2 => hne4 g h2 h1) 2 (.slice bC3 (types.length + 1) pC3), by simpa [strV] using fa_own HO4.out HT4.out HG3.out.1 (by decide) HO3.out 2 (.slice bC3 (types.length + 1) pC3), fun g h1 h2 => fa_apart HC4.out HG3.out.2 (fun g h1 h2 => hne4 g h2 h1) g h2 h1, fa_below HBL4.out (by omega) HO4.out (Nat.le_refl _) HG3.out.1 (by omega) 2 _⟩, by simp [intOf]; omega⟩
      · have hlt' : ¬ (k : Int) < (l.length : Int) := by omega
        have hln : names.length = types.length := hs.1
        rw [hln] at hoC
        obtain ⟨bC, pC, rfl⟩ := own_slice hoC
        obtain ⟨bT, pT, rfl⟩ := own_slice hoT
        have HLN := Lib.hid hln
        have HST := Lib.hid (HS.out.stop hbad hlt)
        have t0 := hbT.cell 0
        have t1 := hbT.cell 1
        have t2 := hbT.cell 2
        have t3 := hbT.cell 3
        have r0 := hbR.cell 0
        have r1 := hbR.cell 1
        have r2 := hbR.cell 2
        have r3 := hbR.cell 3
        have g0 := hbR.free 0
        have g4 := hbR.free 1
        have g5 := hbR.free 2
        have g6 := hbR.free 3
        simp at t0 t1 t2 t3 r0 r1 r2 r3
        have HPUT := Lib.hid ((((hbR.put 0 (.string (tx l[1]))).put 1 (.slice bC types.length pC)).put 2 (.slice bT types.length pT)).put 3 (.slice none 0 0))
        have hCR := own_ne_blk hoC hbR (by decide)
        have hTR := own_ne_blk hoT hbR (by decide)
        have HO1 := Lib.hid (own_set (own_set (own_set (own_set hoC (p := ⟨w.heap.size, 0, none⟩) hCR (.string (tx l[1]))) (p := ⟨w.heap.size, 1, none⟩) hCR (.slice bC types.length pC)) (p := ⟨w.heap.size, 2, none⟩) hCR (.slice bT types.length pT)) (p := ⟨w.heap.size, 3, none⟩) hCR (.slice none 0 0))
        have HO2 := Lib.hid (own_set (own_set (own_set (own_set hoT (p := ⟨w.heap.size, 0, none⟩) hTR (.string (tx l[1]))) (p := ⟨w.heap.size, 1, none⟩) hTR (.slice bC types.length pC)) (p := ⟨w.heap.size, 2, none⟩) hTR (.slice bT types.length pT)) (p := ⟨w.heap.size, 3, none⟩) hTR (.slice none 0 0))
        clear hln hs hbR hbT hoC hoT hbl hne hCR hTR
        go_wp2_with fail
        refine bodyPost_ret (results_cell_two rfl _ _ _ 46 _ (0, 0) _ rfl HPUT.out rfl rfl rfl) rfl ⟨?_, tx l[1], bC, types.length, pC, bT, types.length, pT, b, by simp, ?_⟩
        · exact ((((Fr.of_below (S := fun k => w.heap.size ≤ k) HBL.out).set (.inr (Nat.le_refl _)) _).set (.inr (Nat.le_refl _)) _).set (.inr (Nat.le_refl _)) _).set (.inr (Nat.le_refl _)) _ |>.below (Nat.le_refl _) (fun _ h => h)
        · have hst := HST.out
          cases b with
          | false => exact .inl ⟨rfl, hst⟩
          | true =>
            rw [if_pos rfl] at hst
            obtain ⟨kinds, hty, hh⟩ := hst
            have hkl : types.length = kinds.length := by rw [hty]; simp
            have hmm : types.map strV = kinds.map fun t => Value.string (typS t) := by
              rw [hty, List.map_map]
              refine List.map_congr_left fun t _ => ?_
              show Value.string (tx _) = _
              rw [typS_tx]
            have q1 := HO1.out
            have q2 := HO2.out
            rw [hmm] at q2
            refine .inr ⟨rfl, kinds, names.map strV, hh, by rw [hg1], ?_, ?_⟩
            · generalize hW : World.setCell _ _ _ = W4 at q1 ⊢
              rw [← hkl]; exact q1
            · generalize hW : World.setCell _ _ _ = W4 at q2 ⊢
              rw [← hkl]; exact q2
end Go.Proofs.YtoephflcjllaaaaGreatDoor
