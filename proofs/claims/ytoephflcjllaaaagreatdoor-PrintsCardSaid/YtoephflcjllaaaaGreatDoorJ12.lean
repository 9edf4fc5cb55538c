/- Walks: chain, and what the parser's walks have in common. -/
import Derived.Test.YtoephflcjllaaaaGreatDoorJ06
namespace Go.Proofs.YtoephflcjllaaaaGreatDoor
open Go.RowKit

theorem drop_of {n : Nat} {m : Bags.M} {ws : List Bags.W} {i : Nat} {t : Bags.T} {r : List Bags.W} (h : Bags.par n m (ws.drop i) = some (some (t, r))) (hi : i ≤ ws.length) : ∃ j, i ≤ j ∧ j ≤ ws.length ∧ r = ws.drop j := by
  obtain ⟨pre, h1, _⟩ := Bags.sound _ _ _ _ _ h
  have h2 := congrArg List.length h1
  simp at h2
  refine ⟨i + pre.length, by omega, by omega, ?_⟩
  rw [← List.drop_drop, h1, List.drop_left']
  rfl
theorem lt_of_is {ws : List Bags.W} {i s : Nat} {l : List Bags.Str} (h : (Bags.hd (ws.drop i)).is s l = true) (hs : s ≠ 0) : i < ws.length := by
  obtain ⟨k, r, h1, _⟩ := Bags.hd_is h hs
  have := congrArg List.length h1
  simp at this
  omega
theorem lt_of_sort {ws : List Bags.W} {i s : Nat} (h : (Bags.hd (ws.drop i)).sort = s) (hs : s ≠ 0) : i < ws.length := by
  obtain ⟨k, r, h1, _⟩ := Bags.hd_sort h hs
  have := congrArg List.length h1
  simp at this
  omega

section
variable (hC : ContSaid) {r A : Nat} {ws : List Bags.W} {i s : Nat} {W : World}
include hC
theorem must_sort (hr : Rdr W r A ws i) (hi : i ≤ ws.length) (hz : ws.length ≤ 140737488351232) (h : (Bags.hd (ws.drop i)).sort = s) :
    Calls Tryz.prog 64 #[.pointer (some ⟨r, 0, none⟩), .int .i64 s, .slice none 0 0] W fun e w' => e = .returned (wordVal (Bags.hd (ws.drop i))) ∧ Rdr w' r A ws (i + 1) ∧ Fr (· = r) W w' := by
  refine (must_t hC s hr hi (.inl ⟨rfl, rfl⟩) hz).mono ?_
  rintro e w' ⟨h1, h2⟩
  rw [if_pos (by rw [isT_nil]; simpa using h)] at h2
  exact ⟨h2.1, h2.2, h1⟩
theorem must_sort_no (hr : Rdr W r A ws i) (hi : i ≤ ws.length) (hz : ws.length ≤ 140737488351232) (h : (Bags.hd (ws.drop i)).sort ≠ s) :
    Calls Tryz.prog 64 #[.pointer (some ⟨r, 0, none⟩), .int .i64 s, .slice none 0 0] W fun e w' => e = .panicked missed ∧ Rdr w' r A ws i ∧ Fr (· = r) W w' := by
  refine (must_t hC s hr hi (.inl ⟨rfl, rfl⟩) hz).mono ?_
  rintro e w' ⟨h1, h2⟩
  rw [if_neg (by rw [isT_nil]; simpa using h)] at h2
  exact ⟨h2.1, h2.2, h1⟩
end
theorem Texts.fr {r A : Nat} {ws : List Bags.W} {i : Nat} {w w' : World} {v : Value} {l : List Bags.Str} (h : Texts w v l) (hr : Rdr w r A ws i) (hf : Fr (· = r) w w') : Texts w' v l := by
  rcases h with h | ⟨b, h1, h2, h3, h4⟩
  · exact .inl h
  · refine .inr ⟨b, h1, h2, h3, fun j u hu => ?_⟩
    have hne : b ≠ r := by
      rintro rfl
      obtain ⟨cp, hb, _⟩ := hr.cells
      have h0 := h4 0 _ (List.getElem?_eq_getElem h2)
      have := hb.cell 0
      rw [h0] at this
      simp at this
    have h5 := h4 j u hu
    have hlt : b < w.heap.size := by
      rcases Nat.lt_or_ge b w.heap.size with h6 | h6
      · exact h6
      · unfold World.cell? at h5; rw [Array.getElem?_eq_none h6] at h5; cases h5
    unfold World.cell? at h5 ⊢
    rw [hf.keep b hlt hne]
    exact h5

theorem word_text (W : Bags.W) (w : World) : (Instr.field 149 (wordVal W) 1).run Tryz.prog w = .ok (.string (tx W.text)) w := by kernel_rfl
theorem word_num (W : Bags.W) (w : World) : (Instr.field 149 (wordVal W) 2).run Tryz.prog w = .ok (.int .i64 W.num) w := by kernel_rfl

/-- What a part of the parser answers, by what the plain reader says of the words from here on. -/
def Out (r A : Nat) (ws : List Bags.W) (V : World → Nat → Bags.T → Value → Prop) (w : World) (y : Option (Bags.T × List Bags.W)) (e : Ending) (w' : World) : Prop :=
  Fr (· = r) w w' ∧ match y with
    | none => e = .panicked missed ∧ ∃ j, Rdr w' r A ws j
    | some (t, rest) => ∃ x j, e = .returned x ∧ V w' w.heap.size t x ∧ j ≤ ws.length ∧ rest = ws.drop j ∧ Rdr w' r A ws j
/-- An expression's, a condition's, a query's value: one cell. -/
def V1 (w : World) (B : Nat) (t : Bags.T) (x : Value) : Prop := rep w B t [x]
/-- Where the reader stands, as a number. -/
def atOf (w : World) (r : Nat) : Nat := match w.cell? ⟨r, 1, none⟩ with
  | some (.int _ n) => n.toNat
  | _ => 0
theorem Rdr.atOf {w : World} {r A : Nat} {ws : List Bags.W} {i : Nat} (h : Rdr w r A ws i) : atOf w r = i := by
  unfold Proofs.YtoephflcjllaaaaGreatDoor.atOf
  rw [h.at_.1]
  rfl
/-- A function of the parser that reads in that way, up to so much fuel, wherever the reader stands. -/
def Parses (F : FuncId) (args : Nat → Array Value) (V : World → Nat → Bags.T → Value → Prop) (m : Bags.M) (N : Nat) (r A : Nat) (ws : List Bags.W) (ok : World → Prop) : Prop :=
  ∀ n, n ≤ N → ∀ W i y, ok W → Rdr W r A ws i → i ≤ ws.length → Bags.par n m (ws.drop i) = some y → Calls Tryz.prog F (args r) W (Out r A ws V W y)
theorem fr_S {S : Nat → Prop} {w w' : World} {r : Nat} (h : Fr (· = r) w w') (hS : S r) : Fr S w w' := h.mono fun _ _ hk => hk ▸ hS

set_option maxRecDepth 100000 in
theorem junct_any (s : ByteArray) (t1 t2 : TypeId) (v1 v2 : Value) (w : World) : Calls Tryz.prog 131 #[.string s, .iface t1 v1, .iface t2 v2] w fun e w' =>
    e = .returned (.iface 247 (.pointer (some ⟨w.heap.size, 0, none⟩))) ∧ w' = w.alloc (.cells #[.string s, .iface t1 v1, .iface t2 v2] 251) := by
  go_enter Tryz.func131, Tryz.ntmps131
  go_wp2
  go_ret
  exact ⟨rfl, rfl⟩

set_option maxRecDepth 100000 in
theorem calc_any (s : ByteArray) (t1 t2 : TypeId) (v1 v2 : Value) (w : World) : Calls Tryz.prog 143 #[.string s, .iface t1 v1, .iface t2 v2] w fun e w' =>
    e = .returned (.iface 265 (.pointer (some ⟨w.heap.size, 0, none⟩))) ∧ w' = w.alloc (.cells #[.string s, .iface t1 v1, .iface t2 v2] 269) := by
  go_enter Tryz.func143, Tryz.ntmps143
  go_wp2
  go_ret
  exact ⟨rfl, rfl⟩

/-- What joins two parts. -/
def Joins (J : FuncId) (jn : Bags.Str → Bags.T → Bags.T → Bags.T) : Prop := ∀ (W : World) (B : Nat) (sg : Bags.Str) (a b : Bags.T) (x y : Value), B ≤ W.heap.size → rep W B a [x] → rep W B b [y] →
  Calls Tryz.prog J #[.string (tx sg), x, y] W fun e w' => ∃ z, e = .returned z ∧ Fr (fun _ => False) W w' ∧ rep w' B (jn sg a b) [z]
theorem junct_joins : Joins 131 Bags.T.junct := by
  intro W B sg a b x y hB hx hy
  obtain ⟨t1, v1, rfl⟩ := hx.iface
  obtain ⟨t2, v2, rfl⟩ := hy.iface
  refine (junct_any _ _ _ _ _ _).mono ?_
  rintro e w' ⟨rfl, rfl⟩
  have hf : Fr (fun _ => False) W (W.alloc (.cells #[.string (tx sg), .iface t1 v1, .iface t2 v2] 251)) := (Fr.refl _ _).alloc _
  exact ⟨_, rfl, hf, _, _, hx.fr hf (fun _ h => h.elim) (Nat.le_refl _), hy.fr hf (fun _ h => h.elim) (Nat.le_refl _), _, hB, rfl, Blk.made _ _ _⟩
theorem calc_joins : Joins 143 Bags.T.bin := by
  intro W B sg a b x y hB hx hy
  obtain ⟨t1, v1, rfl⟩ := hx.iface
  obtain ⟨t2, v2, rfl⟩ := hy.iface
  refine (calc_any _ _ _ _ _ _).mono ?_
  rintro e w' ⟨rfl, rfl⟩
  have hf : Fr (fun _ => False) W (W.alloc (.cells #[.string (tx sg), .iface t1 v1, .iface t2 v2] 269)) := (Fr.refl _ _).alloc _
  exact ⟨_, rfl, hf, _, _, hx.fr hf (fun _ h => h.elim) (Nat.le_refl _), hy.fr hf (fun _ h => h.elim) (Nat.le_refl _), _, hB, rfl, Blk.made _ _ _⟩

set_option maxRecDepth 100000 in
set_option maxHeartbeats 2000000 in
theorem chain_cond (hC : ContSaid) {r A : Nat} {ws : List Bags.W} {W0 : World} {i s : Nat} {sv : Value} {l : List Bags.Str} (hsv : Texts W0 sv l) (hl : ∀ w : Bags.W, isT w s l = w.is s l) (hs : s ≠ 0) (hz : ws.length ≤ 140737488351232)
    {F : FuncId} {first cap : Array Value} (hent : ∀ (args : Array Value) (w : World), (callFunc F args).run Tryz.prog w = .ok (.enter F args) w)
    {J : FuncId} (hentJ : ∀ (args : Array Value) (w : World), (callFunc J args).run Tryz.prog w = .ok (.enter J args) w) {jn : Bags.Str → Bags.T → Bags.T → Bags.T} (hJ : Joins J jn)
    {mp : Bags.M} {mL : Bags.T → Bags.M} (hL0 : ∀ c ws, Bags.par 0 (mL c) ws = none) (hL : ∀ n c ws, Bags.par (n+1) (mL c) ws = if (Bags.hd ws).is s l then (Bags.par n mp ws.tail).andThen fun b r => Bags.par n (mL (jn (Bags.hd ws).text c b)) r else Bags.ok c ws)
    {n : Nat} (hF : Parses F (fun _ => first ++ cap) V1 mp n r A ws (fun W => Fr (· = r) W0 W)) (hr : Rdr W0 r A ws i) (hi : i ≤ ws.length)
    {y : Option (Bags.T × List Bags.W)} (hy : (Bags.par n mp (ws.drop i)).andThen (fun c r => Bags.par n (mL c) r) = some y) :
    Calls Tryz.prog 129 #[.pointer (some ⟨r, 0, none⟩), .int .i64 s, sv, .func (.func F) first cap, .func (.func J) #[] #[]] W0 (Out r A ws V1 W0 y) := by
  have hwt := word_text
  have hrlt := hr.lt
  have HF := Lib.hid hF
  have HSV := Lib.hid hsv
  have HR0 := Lib.hid hr
  have HL := Lib.hid hL
  have HJ := Lib.hid hJ
  have HY := Lib.hid hy
  clear hF hsv hr hL hJ hy
  go_enter Tryz.func129, Tryz.ntmps129
  go_wp2
  rcases Bags.andThen_some HY.out with ⟨hp, rfl⟩ | ⟨c, rest, hp, hy⟩
  · refine (HF.out n (Nat.le_refl _) _ i _ (Fr.refl _ _) HR0.out hi hp).mono ?_
    rintro e w' ⟨hfr, rfl, hj⟩
    exact ⟨rfl, hfr, rfl, hj⟩
  · refine (HF.out n (Nat.le_refl _) _ i _ (Fr.refl _ _) HR0.out hi hp).mono ?_
    rintro e w' ⟨hfr, x, j, rfl, hx, hj, rfl, hRj⟩
    have HX := Lib.hid (show ∃ (c : Bags.T) (j m : Nat), m ≤ n ∧ V1 w' W0.heap.size c x ∧ j ≤ ws.length ∧ Rdr w' r A ws j ∧ Fr (· = r) W0 w' ∧ Bags.par m (mL c) (ws.drop j) = some y from ⟨c, j, n, Nat.le_refl _, hx, hj, hRj, hfr, hy⟩)
    clear hx hj hRj hfr hy hp HY
    go_wp2_with fail
    go_loopw [11] (fun x wr => ∃ (c : Bags.T) (j m : Nat), m ≤ n ∧ V1 wr W0.heap.size c x ∧ j ≤ ws.length ∧ Rdr wr r A ws j ∧ Fr (· = r) W0 wr ∧ Bags.par m (mL c) (ws.drop j) = some y)
      (fun _ wr => ws.length + 1 - atOf wr r)
    case atStart => exact HX.out
    case round =>
      clear HX
      clear j
      obtain ⟨c, j, m, hm, hx, hj, hR, hfr, hy⟩ := hrel
      have HX := Lib.hid hx
      have HR := Lib.hid hR
      have HF0 := Lib.hid hfr
      have HS := Lib.hid (HSV.out.fr HR0.out hfr)
      clear hx hR hfr
      cases m with
      | zero => rw [hL0] at hy; cases hy
      | succ m =>
        rw [HL.out] at hy
        cases ht : (Bags.hd (ws.drop j)).is s l
        · rw [if_neg (by simp [ht])] at hy
          have HT := Lib.hid (show isT (Bags.hd (ws.drop j)) s l = false by rw [hl, ht])
          have HY := Lib.hid hy
          clear hy ht
          go_wp2_with (go_at_call 82; refine (is_t hC s HR.out hj HS.out).mono ?_; rw [HT.out]; rintro e w' ⟨rfl, hb⟩; have HB := Lib.hid hb; clear hb)
          go_ret
          obtain ⟨rfl⟩ : some (c, ws.drop j) = y := by simpa [Bags.ok] using HY.out
          have hf2 := Fr.of_below (S := fun _ => False) HB.out
          exact ⟨HF0.out.trans (Fr.of_below HB.out) (fun _ _ h => h), _, j, rfl, HX.out.fr hf2 (fun _ h => h.elim) (Nat.le_refl _), hj, rfl, HR.out.below HB.out⟩
        · rw [if_pos ht] at hy
          have hj1 := lt_of_is ht hs
          have HT := Lib.hid (show isT (Bags.hd (ws.drop j)) s l = true by rw [hl, ht])
          have HT2 := Lib.hid (Bags.is_sort ht)
          rw [List.tail_drop] at hy
          have HY := Lib.hid hy
          clear hy ht
          go_wp2_with (first
            | (go_at_call 82; refine (is_t hC s HR.out hj HS.out).mono ?_; rw [HT.out]; rintro e w' ⟨rfl, hb⟩; have HB := Lib.hid hb; clear hb)
            | (go_at_call 64; refine (must_sort hC (HR.out.below HB.out) hj hz HT2.out).mono ?_; rintro e w2 ⟨rfl, hR2, hG2⟩; have HR2 := Lib.hid hR2; have HG2 := Lib.hid (HF0.out.trans ((Fr.of_below HB.out).trans hG2 (fun _ _ h => h)) (fun _ _ h => h)); have HX2 := Lib.hid ((HX.out.fr (Fr.of_below (S := fun _ => False) HB.out) (fun _ h => h.elim) (Nat.le_refl _)).fr hG2 (fun _ h => h ▸ hrlt) (Nat.le_refl _)); clear hR2 hG2))
          rcases Bags.andThen_some HY.out with ⟨hp, rfl⟩ | ⟨b, rest, hp, hy⟩
          · refine (HF.out m (by omega) _ (j + 1) _ HG2.out HR2.out (by omega) hp).mono ?_
            rintro e w3 ⟨hfr, rfl, hj⟩
            exact ⟨rfl, HG2.out.trans hfr (fun _ _ h => h), rfl, hj⟩
          · refine (HF.out m (by omega) _ (j + 1) _ HG2.out HR2.out (by omega) hp).mono ?_
            rintro e w3 ⟨hfr, z, j2, rfl, hz2, hj2, rfl, hR3⟩
            obtain ⟨j3, q1, q2, q3⟩ := drop_of hp (by omega)
            have hj3 : j2 = j3 := by
              have := congrArg List.length q3
              simp at this
              omega
            have hB : W0.heap.size ≤ w3.heap.size := Nat.le_trans HG2.out.size hfr.size
            have HX3 := Lib.hid (HX2.out.fr hfr (fun _ h => h ▸ hrlt) (Nat.le_refl _))
            have HZ := Lib.hid (hz2.fr (Fr.refl (fun _ => False) _) (fun _ h => h.elim) HG2.out.size)
            have HR3 := Lib.hid hR3
            have HG3 := Lib.hid (HG2.out.trans hfr (fun _ _ h => h))
            have HY := Lib.hid hy
            clear hz2 hR3 hfr hy hp q3
            go_wp2
            refine (HJ.out w3 W0.heap.size _ _ _ _ _ hB HX3.out HZ.out).mono ?_
            rintro e w4 ⟨v, rfl, hf4, hv⟩
            have hR4 := HR3.out.fr hf4 id id
            have HREL := Lib.hid (show ∃ (c : Bags.T) (j m : Nat), m ≤ n ∧ V1 w4 W0.heap.size c v ∧ j ≤ ws.length ∧ Rdr w4 r A ws j ∧ Fr (· = r) W0 w4 ∧ Bags.par m (mL c) (ws.drop j) = some y from
              ⟨_, j2, m, by omega, hv, hj2, hR4, HG3.out.trans hf4 (fun _ _ h => h.elim), HY.out⟩)
            have hat := hR4.atOf
            have hat' := HR.out.atOf
            clear hf4 hv hR4
            go_wp2_with fail
            go_roundw
            case rel => exact HREL.out
            case measure => omega

set_option maxRecDepth 100000 in
set_option maxHeartbeats 2000000 in
theorem chain_expr (hC : ContSaid) {r A : Nat} {ws : List Bags.W} {W0 : World} {i s : Nat} {sv : Value} {l : List Bags.Str} (hsv : Texts W0 sv l) (hl : ∀ w : Bags.W, isT w s l = w.is s l) (hs : s ≠ 0) (hz : ws.length ≤ 140737488351232)
    {F : FuncId} {first cap : Array Value} (hent : ∀ (args : Array Value) (w : World), (callFunc F args).run Tryz.prog w = .ok (.enter F args) w)
    {J : FuncId} (hentJ : ∀ (args : Array Value) (w : World), (callFunc J args).run Tryz.prog w = .ok (.enter J args) w) {jn : Bags.Str → Bags.T → Bags.T → Bags.T} (hJ : Joins J jn)
    {mp : Bags.M} {mL : Bags.T → Bags.M} (hL0 : ∀ c ws, Bags.par 0 (mL c) ws = none) (hL : ∀ n c ws, Bags.par (n+1) (mL c) ws = if (Bags.hd ws).is s l then (Bags.par n mp ws.tail).andThen fun b r => Bags.par n (mL (jn (Bags.hd ws).text c b)) r else Bags.ok c ws)
    {n : Nat} (hF : Parses F (fun _ => first ++ cap) V1 mp n r A ws (fun W => Fr (· = r) W0 W)) (hr : Rdr W0 r A ws i) (hi : i ≤ ws.length)
    {y : Option (Bags.T × List Bags.W)} (hy : (Bags.par n mp (ws.drop i)).andThen (fun c r => Bags.par n (mL c) r) = some y) :
    Calls Tryz.prog 141 #[.pointer (some ⟨r, 0, none⟩), .int .i64 s, sv, .func (.func F) first cap, .func (.func J) #[] #[]] W0 (Out r A ws V1 W0 y) := by
  have hwt := word_text
  have hrlt := hr.lt
  have HF := Lib.hid hF
  have HSV := Lib.hid hsv
  have HR0 := Lib.hid hr
  have HL := Lib.hid hL
  have HJ := Lib.hid hJ
  have HY := Lib.hid hy
  clear hF hsv hr hL hJ hy
  go_enter Tryz.func141, Tryz.ntmps141
  go_wp2
  rcases Bags.andThen_some HY.out with ⟨hp, rfl⟩ | ⟨c, rest, hp, hy⟩
  · refine (HF.out n (Nat.le_refl _) _ i _ (Fr.refl _ _) HR0.out hi hp).mono ?_
    rintro e w' ⟨hfr, rfl, hj⟩
    exact ⟨rfl, hfr, rfl, hj⟩
  · refine (HF.out n (Nat.le_refl _) _ i _ (Fr.refl _ _) HR0.out hi hp).mono ?_
    rintro e w' ⟨hfr, x, j, rfl, hx, hj, rfl, hRj⟩
    have HX := Lib.hid (show ∃ (c : Bags.T) (j m : Nat), m ≤ n ∧ V1 w' W0.heap.size c x ∧ j ≤ ws.length ∧ Rdr w' r A ws j ∧ Fr (· = r) W0 w' ∧ Bags.par m (mL c) (ws.drop j) = some y from ⟨c, j, n, Nat.le_refl _, hx, hj, hRj, hfr, hy⟩)
    clear hx hj hRj hfr hy hp HY
    go_wp2_with fail
    go_loopw [11] (fun x wr => ∃ (c : Bags.T) (j m : Nat), m ≤ n ∧ V1 wr W0.heap.size c x ∧ j ≤ ws.length ∧ Rdr wr r A ws j ∧ Fr (· = r) W0 wr ∧ Bags.par m (mL c) (ws.drop j) = some y)
      (fun _ wr => ws.length + 1 - atOf wr r)
    case atStart => exact HX.out
    case round =>
      clear HX
      clear j
      obtain ⟨c, j, m, hm, hx, hj, hR, hfr, hy⟩ := hrel
      have HX := Lib.hid hx
      have HR := Lib.hid hR
      have HF0 := Lib.hid hfr
      have HS := Lib.hid (HSV.out.fr HR0.out hfr)
      clear hx hR hfr
      cases m with
      | zero => rw [hL0] at hy; cases hy
      | succ m =>
        rw [HL.out] at hy
        cases ht : (Bags.hd (ws.drop j)).is s l
        · rw [if_neg (by simp [ht])] at hy
          have HT := Lib.hid (show isT (Bags.hd (ws.drop j)) s l = false by rw [hl, ht])
          have HY := Lib.hid hy
          clear hy ht
          go_wp2_with (go_at_call 82; refine (is_t hC s HR.out hj HS.out).mono ?_; rw [HT.out]; rintro e w' ⟨rfl, hb⟩; have HB := Lib.hid hb; clear hb)
          go_ret
          obtain ⟨rfl⟩ : some (c, ws.drop j) = y := by simpa [Bags.ok] using HY.out
          have hf2 := Fr.of_below (S := fun _ => False) HB.out
          exact ⟨HF0.out.trans (Fr.of_below HB.out) (fun _ _ h => h), _, j, rfl, HX.out.fr hf2 (fun _ h => h.elim) (Nat.le_refl _), hj, rfl, HR.out.below HB.out⟩
        · rw [if_pos ht] at hy
          have hj1 := lt_of_is ht hs
          have HT := Lib.hid (show isT (Bags.hd (ws.drop j)) s l = true by rw [hl, ht])
          have HT2 := Lib.hid (Bags.is_sort ht)
          rw [List.tail_drop] at hy
          have HY := Lib.hid hy
          clear hy ht
          go_wp2_with (first
            | (go_at_call 82; refine (is_t hC s HR.out hj HS.out).mono ?_; rw [HT.out]; rintro e w' ⟨rfl, hb⟩; have HB := Lib.hid hb; clear hb)
            | (go_at_call 64; refine (must_sort hC (HR.out.below HB.out) hj hz HT2.out).mono ?_; rintro e w2 ⟨rfl, hR2, hG2⟩; have HR2 := Lib.hid hR2; have HG2 := Lib.hid (HF0.out.trans ((Fr.of_below HB.out).trans hG2 (fun _ _ h => h)) (fun _ _ h => h)); have HX2 := Lib.hid ((HX.out.fr (Fr.of_below (S := fun _ => False) HB.out) (fun _ h => h.elim) (Nat.le_refl _)).fr hG2 (fun _ h => h ▸ hrlt) (Nat.le_refl _)); clear hR2 hG2))
          rcases Bags.andThen_some HY.out with ⟨hp, rfl⟩ | ⟨b, rest, hp, hy⟩
          · refine (HF.out m (by omega) _ (j + 1) _ HG2.out HR2.out (by omega) hp).mono ?_
            rintro e w3 ⟨hfr, rfl, hj⟩
            exact ⟨rfl, HG2.out.trans hfr (fun _ _ h => h), rfl, hj⟩
          · refine (HF.out m (by omega) _ (j + 1) _ HG2.out HR2.out (by omega) hp).mono ?_
            rintro e w3 ⟨hfr, z, j2, rfl, hz2, hj2, rfl, hR3⟩
            obtain ⟨j3, q1, q2, q3⟩ := drop_of hp (by omega)
            have hj3 : j2 = j3 := by
              have := congrArg List.length q3
              simp at this
              omega
            have hB : W0.heap.size ≤ w3.heap.size := Nat.le_trans HG2.out.size hfr.size
            have HX3 := Lib.hid (HX2.out.fr hfr (fun _ h => h ▸ hrlt) (Nat.le_refl _))
            have HZ := Lib.hid (hz2.fr (Fr.refl (fun _ => False) _) (fun _ h => h.elim) HG2.out.size)
            have HR3 := Lib.hid hR3
            have HG3 := Lib.hid (HG2.out.trans hfr (fun _ _ h => h))
            have HY := Lib.hid hy
            clear hz2 hR3 hfr hy hp q3
            go_wp2
            refine (HJ.out w3 W0.heap.size _ _ _ _ _ hB HX3.out HZ.out).mono ?_
            rintro e w4 ⟨v, rfl, hf4, hv⟩
            have hR4 := HR3.out.fr hf4 id id
            have HREL := Lib.hid (show ∃ (c : Bags.T) (j m : Nat), m ≤ n ∧ V1 w4 W0.heap.size c v ∧ j ≤ ws.length ∧ Rdr w4 r A ws j ∧ Fr (· = r) W0 w4 ∧ Bags.par m (mL c) (ws.drop j) = some y from
              ⟨_, j2, m, by omega, hv, hj2, hR4, HG3.out.trans hf4 (fun _ _ h => h.elim), HY.out⟩)
            have hat := hR4.atOf
            have hat' := HR.out.atOf
            clear hf4 hv hR4
            go_wp2_with fail
            go_roundw
            case rel => exact HREL.out
            case measure => omega
end Go.Proofs.YtoephflcjllaaaaGreatDoor
/- Walks: the small methods of the parser. -/
namespace Go.Proofs.YtoephflcjllaaaaGreatDoor
open Go.RowKit

/-- A method of the parser. -/
abbrev Meth (F : FuncId) (V : World → Nat → Bags.T → Value → Prop) (m : Bags.M) (N : Nat) (r A : Nat) (ws : List Bags.W) : Prop := Parses F (fun r => #[.pointer (some ⟨r, 0, none⟩)]) V m N r A ws (fun _ => True)
section
variable (hC : ContSaid) {r A : Nat} {ws : List Bags.W} {i s : Nat} {t : TypeId} {W : World} {cs : Array Value} {g n : Nat} {l : List Bags.Str}
include hC
theorem takes_yes (hr : Rdr W r A ws i) (hi : i ≤ ws.length) (hz : ws.length ≤ 140737488351232) (ht : isT (Bags.hd (ws.drop i)) s l = true) (h0 : 0 < l.length) (h8 : l.length ≤ 8) (hcs : cs = strs l) (hg : g = W.heap.size) (hn : n = l.length) :
    Calls Tryz.prog 83 #[.pointer (some ⟨r, 0, none⟩), .int .i64 s, .slice (some ⟨g, 0, none⟩) n n] (W.alloc (.cells cs t)) fun e w' => e = .returned (.bool true) ∧ Rdr w' r A ws (i + 1) ∧ Fr (· = r) W w' :=
  takes_at hC hr hi hz ht h0 h8 hcs hg hn
theorem takes_no (hr : Rdr W r A ws i) (hi : i ≤ ws.length) (hz : ws.length ≤ 140737488351232) (ht : isT (Bags.hd (ws.drop i)) s l = false) (h0 : 0 < l.length) (h8 : l.length ≤ 8) (hcs : cs = strs l) (hg : g = W.heap.size) (hn : n = l.length) :
    Calls Tryz.prog 83 #[.pointer (some ⟨r, 0, none⟩), .int .i64 s, .slice (some ⟨g, 0, none⟩) n n] (W.alloc (.cells cs t)) fun e w' => e = .returned (.bool false) ∧ Rdr w' r A ws i ∧ Fr (· = r) W w' :=
  takes_at hC hr hi hz ht h0 h8 hcs hg hn
end
theorem drop_inj {ws : List Bags.W} {j j' : Nat} (h : j ≤ ws.length) (h' : j' ≤ ws.length) (e : ws.drop j = ws.drop j') : j = j' := by
  have := congrArg List.length e
  simp at this
  omega
theorem Fr.t {S : Nat → Prop} {a b c : World} (h : Fr S a b) (h' : Fr S b c) : Fr S a c := h.trans h' fun _ _ h => h

set_option maxRecDepth 100000 in
set_option maxHeartbeats 2000000 in
theorem as_any (hC : ContSaid) {r A : Nat} {ws : List Bags.W} (hz : ws.length ≤ 1000) {i : Nat} {W : World} (hr : Rdr W r A ws i) (hi : i ≤ ws.length) (e : Bags.Str → Bags.T) {y : Option (Bags.T × List Bags.W)} (hy : Bags.asOf e (ws.drop i) = some y) :
    Calls Tryz.prog 127 #[.pointer (some ⟨r, 0, none⟩)] W (Out r A ws (fun _ _ t x => ∃ nm, t = e nm ∧ x = .string (tx nm)) W y) := by
  have hwt := word_text
  have HR := Lib.hid hr
  unfold Bags.asOf at hy
  cases h1 : (Bags.hd (ws.drop i)).is 1 [Bags.str "as"]
  · rw [if_neg (by simp [h1])] at hy
    have H1 := Lib.hid (show isT (Bags.hd (ws.drop i)) 1 [Bags.str "as"] = false from h1)
    obtain ⟨rfl⟩ : some (_, _) = y := by simpa [Bags.ok] using hy
    clear hr h1 hy
    go_enter Tryz.func127, Tryz.ntmps127
    go_wp2_with (first | (go_at_call 83; refine (takes_no hC HR.out hi (by omega) H1.out (by decide) (by decide) rfl (by first | rfl | simp) rfl).mono ?_; rintro e w2 ⟨rfl, hR, hG⟩; have HR2 := Lib.hid hR; have HG2 := Lib.hid hG; clear hR hG))
    go_ret
    exact ⟨HG2.out, _, i, rfl, ⟨[], rfl, rfl⟩, hi, rfl, HR2.out⟩
  · rw [if_pos h1] at hy
    have hi1 := lt_of_is h1 (by decide)
    have H1 := Lib.hid (show isT (Bags.hd (ws.drop i)) 1 [Bags.str "as"] = true from h1)
    simp only [List.tail_drop] at hy
    by_cases h2 : (Bags.hd (ws.drop (i + 1))).sort = 2
    · rw [if_pos h2] at hy
      have hi2 := lt_of_sort h2 (by decide)
      have H2 := Lib.hid h2
      obtain ⟨rfl⟩ : some (_, _) = y := by simpa [Bags.ok] using hy
      clear hr h1 hy h2
      go_enter Tryz.func127, Tryz.ntmps127
      go_wp2_with (first | (go_at_call 83; refine (takes_yes hC HR.out hi (by omega) H1.out (by decide) (by decide) rfl (by first | rfl | simp) rfl).mono ?_; rintro e w2 ⟨rfl, hR, hG⟩; have HR2 := Lib.hid hR; have HG2 := Lib.hid hG; clear hR hG) | (go_at_call 64; refine (must_sort hC HR2.out (by omega) (by omega) H2.out).mono ?_; rintro e w3 ⟨rfl, hR, hG⟩; have HR3 := Lib.hid hR; have HG3 := Lib.hid hG; clear hR hG))
      go_ret
      exact ⟨HG2.out.t HG3.out, _, i + 1 + 1, rfl, ⟨_, rfl, rfl⟩, by omega, rfl, HR3.out⟩
    · rw [if_neg h2] at hy
      have H2 := Lib.hid h2
      obtain ⟨rfl⟩ : none = y := by simpa [Bags.miss] using hy
      clear hr h1 hy h2
      go_enter Tryz.func127, Tryz.ntmps127
      go_wp2_with (first | (go_at_call 83; refine (takes_yes hC HR.out hi (by omega) H1.out (by decide) (by decide) rfl (by first | rfl | simp) rfl).mono ?_; rintro e w2 ⟨rfl, hR, hG⟩; have HR2 := Lib.hid hR; have HG2 := Lib.hid hG; clear hR hG) | (go_at_call 64; refine (must_sort_no hC HR2.out (by omega) (by omega) H2.out).mono ?_; rintro e w3 ⟨rfl, hR, hG⟩; have HR3 := Lib.hid hR; have HG3 := Lib.hid hG; clear hR hG))
      exact ⟨rfl, HG2.out.t HG3.out, rfl, _, HR3.out⟩

/-- An item's, a source's value: a struct of two cells. -/
def V2 (w : World) (B : Nat) (t : Bags.T) (x : Value) : Prop := ∃ a b, x = .agg #[a, b] ∧ rep w B t [a, b] ∧ a.oneCell' = true ∧ b.oneCell' = true
/-- A column's value: a pointer. -/
def VC (w : World) (B : Nat) (t : Bags.T) (x : Value) : Prop := ∃ b o n, B ≤ b ∧ t = .col o n ∧ x = .pointer (some ⟨b, 0, none⟩) ∧ Blk w b 229 #[.string (tx o), .string (tx n)]

set_option maxRecDepth 100000 in
set_option maxHeartbeats 2000000 in
theorem source_any (hC : ContSaid) {r A : Nat} {ws : List Bags.W} (hz : ws.length ≤ 1000) (N : Nat) : Meth 105 V2 .source N r A ws := by
  intro n _ W i y _ hr hi hy
  cases n with
  | zero => simp [Bags.par] at hy
  | succ n =>
  have hwt := word_text
  have HR := Lib.hid hr
  rw [Bags.par] at hy
  by_cases h1 : (Bags.hd (ws.drop i)).sort = 2
  · rw [if_pos h1, List.tail_drop] at hy
    have hi1 := lt_of_sort h1 (by decide)
    have H1 := Lib.hid h1
    have HY := Lib.hid hy
    have hlt := hr.lt
    have hltA := hr.ltA
    clear hr h1 hy
    rcases y with _ | ⟨t, rest⟩
    · go_enter Tryz.func105, Tryz.ntmps105
      go_wp2_with (first | (go_at_call 64; refine (must_sort hC (HR.out.alloc _) hi (by omega) H1.out).mono ?_; rintro e w2 ⟨rfl, hR, hG⟩; have HR2 := Lib.hid hR; have HG2 := Lib.hid hG; clear hR hG) | (go_at_call 127; refine (as_any hC hz HR2.out (by omega) _ HY.out).mono ?_; rintro e w3 ⟨hG, rfl, hR⟩; have HR3 := Lib.hid hR; have HG3 := Lib.hid hG; clear hR hG))
      exact ⟨rfl, (((Fr.refl (· = r) W).alloc _).t HG2.out).t HG3.out, rfl, HR3.out⟩
    · go_enter Tryz.func105, Tryz.ntmps105
      go_wp2_with (first | (go_at_call 64; refine (must_sort hC (HR.out.alloc _) hi (by omega) H1.out).mono ?_; rintro e w2 ⟨rfl, hR, hG⟩; have HR2 := Lib.hid hR; have HG2 := Lib.hid hG; clear hR hG))
      have hs2 := HG2.out.size
      simp only [World.size_alloc] at hs2
      have HG0 := Lib.hid (((Fr.refl (· = r) W).alloc _).t HG2.out)
      have HB := Lib.hid ((Blk.made W 207 #[.string ⟨#[]⟩, .string ⟨#[]⟩]).fr HG2.out (by omega))
      go_wp2_with (first | (go_at_call 127; refine (as_any hC hz HR2.out (by omega) _ HY.out).mono ?_; rintro e w3 ⟨hG, x3, j3, rfl, ⟨nm, rfl, rfl⟩, hj3, rfl, hR⟩; have HR3 := Lib.hid hR; have HG3 := Lib.hid hG; clear hR hG; have hb3 := HB.out.fr HG3.out (by omega); have HB3 := Lib.hid hb3; have b0 := hb3.cell 0; have b1 := hb3.cell 1; have g0 := hb3.free 0; have g1 := hb3.free 1; simp at b0 b1; clear hb3))
      have hput := (HB3.out.put 0 (.string (tx (Bags.hd (ws.drop i)).text))).put 1 (.string (tx nm))
      refine bodyPost_ret (results_cell_row rfl _ _ _ 207 _ (0, 0) _ rfl hput rfl rfl rfl) rfl ?_
      exact ⟨((HG0.out.t HG3.out).set (.inl (Nat.le_refl _)) _).set (.inl (Nat.le_refl _)) _, _, j3, rfl, ⟨_, _, by simp, rfl, rfl, rfl⟩, hj3, rfl,
        HR3.out.fr (((Fr.refl (· = W.heap.size) w3).set (p := ⟨W.heap.size, 0, none⟩) (.inr rfl) _).set (p := ⟨W.heap.size, 1, none⟩) (.inr rfl) _) (by omega) (by omega)⟩
  · rw [if_neg h1] at hy
    have H1 := Lib.hid h1
    obtain ⟨rfl⟩ : none = y := by simpa [Bags.miss] using hy
    clear hr h1 hy
    go_enter Tryz.func105, Tryz.ntmps105
    go_wp2_with (first | (go_at_call 64; refine (must_sort_no hC (HR.out.alloc _) hi (by omega) H1.out).mono ?_; rintro e w2 ⟨rfl, hR, hG⟩; have HR2 := Lib.hid hR; have HG2 := Lib.hid hG; clear hR hG))
    exact ⟨rfl, ((Fr.refl _ _).alloc _).t HG2.out, rfl, _, HR2.out⟩

set_option maxRecDepth 100000 in
set_option maxHeartbeats 2000000 in
theorem item_any (hC : ContSaid) {r A : Nat} {ws : List Bags.W} (hz : ws.length ≤ 1000) {N : Nat} (hE : Meth 126 V1 .expr N r A ws) : Meth 103 V2 .item (N + 1) r A ws := by
  intro n hn W i y _ hr hi hy
  cases n with
  | zero => simp [Bags.par] at hy
  | succ n =>
  have HE := Lib.hid hE
  have HR := Lib.hid hr
  rw [Bags.par] at hy
  have hlt := hr.lt
  have hltA := hr.ltA
  rcases Bags.andThen_some hy with ⟨hp, rfl⟩ | ⟨e, rest, hp, hy2⟩
  · have HP := Lib.hid hp
    clear hr hy hE hp
    go_enter Tryz.func103, Tryz.ntmps103
    go_wp2_with (first | (go_at_call 126; refine (HE.out n (by omega) _ i _ trivial (HR.out.alloc _) hi HP.out).mono ?_; rintro e w2 ⟨hG, rfl, hR⟩; have HR2 := Lib.hid hR; have HG2 := Lib.hid hG; clear hR hG))
    exact ⟨rfl, ((Fr.refl (· = r) W).alloc _).t HG2.out, rfl, HR2.out⟩
  · have HP := Lib.hid hp
    have HY := Lib.hid hy2
    obtain ⟨j0, q1, q2, rfl⟩ := drop_of hp hi
    clear hr hy hy2 hE hp
    rcases y with _ | ⟨t, rest⟩
    · go_enter Tryz.func103, Tryz.ntmps103
      go_wp2_with (first | (go_at_call 126; refine (HE.out n (by omega) _ i _ trivial (HR.out.alloc _) hi HP.out).mono ?_; rintro e w2 ⟨hG, x2, j2, rfl, hx, hj2, hdr, hR⟩; have HR2 := Lib.hid hR; have HG2 := Lib.hid hG; clear hR hG; obtain rfl : j0 = j2 := drop_inj q2 hj2 hdr) | (go_at_call 127; refine (as_any hC hz HR2.out (by omega) _ HY.out).mono ?_; rintro e w3 ⟨hG, rfl, hR⟩; have HR3 := Lib.hid hR; have HG3 := Lib.hid hG; clear hR hG))
      exact ⟨rfl, (((Fr.refl (· = r) W).alloc _).t HG2.out).t HG3.out, rfl, HR3.out⟩
    · go_enter Tryz.func103, Tryz.ntmps103
      go_wp2_with (first | (go_at_call 126; refine (HE.out n (by omega) _ i _ trivial (HR.out.alloc _) hi HP.out).mono ?_; rintro e w2 ⟨hG, x2, j2, rfl, hx, hj2, hdr, hR⟩; have HR2 := Lib.hid hR; have HG2 := Lib.hid hG; clear hR hG; obtain rfl : j0 = j2 := drop_inj q2 hj2 hdr; obtain ⟨tp, vp, rfl⟩ := hx.iface; have HX := Lib.hid (show rep _ _ _ _ from hx); clear hx))
      have hs2 := HG2.out.size
      simp only [World.size_alloc] at hs2
      have HG0 := Lib.hid (((Fr.refl (· = r) W).alloc _).t HG2.out)
      have HB := Lib.hid ((Blk.made W 203 #[.nilIface, .string ⟨#[]⟩]).fr HG2.out (by omega))
      go_wp2_with (first | (go_at_call 127; refine (as_any hC hz HR2.out (by omega) _ HY.out).mono ?_; rintro e w3 ⟨hG, x3, j3, rfl, ⟨nm, rfl, rfl⟩, hj3, rfl, hR⟩; have HR3 := Lib.hid hR; have HG3 := Lib.hid hG; clear hR hG; have hb3 := HB.out.fr HG3.out (by omega); have HB3 := Lib.hid hb3; have b0 := hb3.cell 0; have b1 := hb3.cell 1; have g0 := hb3.free 0; have g1 := hb3.free 1; simp at b0 b1; clear hb3))
      have hput := (HB3.out.put 0 (.iface tp vp)).put 1 (.string (tx nm))
      have hfin := (((Fr.refl (· = W.heap.size) w3).set (p := ⟨W.heap.size, 0, none⟩) (.inr rfl) (.iface tp vp)).set (p := ⟨W.heap.size, 1, none⟩) (.inr rfl) (.string (tx nm)))
      refine bodyPost_ret (results_cell_row rfl _ _ _ 203 _ (0, 0) _ rfl hput rfl rfl rfl) rfl ?_
      have hx3 : rep w3 (W.heap.size + 1) e [.iface tp vp] := HX.out.fr HG3.out (fun k h => by simp; omega) (by simp)
      exact ⟨((HG0.out.t HG3.out).set (.inl (Nat.le_refl _)) _).set (.inl (Nat.le_refl _)) _, _, j3, rfl, ⟨_, _, by simp, ⟨_, rfl, hx3.fr hfin (fun k h => by omega) (by omega)⟩, rfl, rfl⟩, hj3, rfl,
        HR3.out.fr hfin (by omega) (by omega)⟩

set_option maxRecDepth 100000 in
set_option maxHeartbeats 2000000 in
theorem column_any (hC : ContSaid) {r A : Nat} {ws : List Bags.W} (hz : ws.length ≤ 1000) (N : Nat) : Meth 108 VC .col N r A ws := by
  intro n _ W i y _ hr hi hy
  cases n with
  | zero => simp [Bags.par] at hy
  | succ n =>
  have hwt := word_text
  have HR := Lib.hid hr
  rw [Bags.par] at hy
  simp only [List.tail_drop] at hy
  have hlt := hr.lt
  by_cases h1 : (Bags.hd (ws.drop i)).sort = 2
  · rw [if_pos h1] at hy
    have hi1 := lt_of_sort h1 (by decide)
    have H1 := Lib.hid h1
    cases h2 : (Bags.hd (ws.drop (i + 1))).is 5 [Bags.str "."]
    · rw [if_neg (by simp [h2])] at hy
      have H2 := Lib.hid (show isT (Bags.hd (ws.drop (i + 1))) 5 [Bags.str "."] = false from h2)
      obtain ⟨rfl⟩ : some (_, _) = y := by simpa [Bags.ok] using hy
      clear hr h1 h2 hy
      go_enter Tryz.func108, Tryz.ntmps108
      go_wp2_with (first | (go_at_call 64; refine (must_sort hC HR.out hi (by omega) H1.out).mono ?_; rintro e w2 ⟨rfl, hR, hG⟩; have HR2 := Lib.hid hR; have HG2 := Lib.hid hG; clear hR hG) | (go_at_call 83; refine (takes_no hC HR2.out (by omega) (by omega) H2.out (by decide) (by decide) rfl (by first | rfl | simp) rfl).mono ?_; rintro e w3 ⟨rfl, hR, hG⟩; have HR3 := Lib.hid hR; have HG3 := Lib.hid hG; clear hR hG))
      go_ret
      exact ⟨(HG2.out.t HG3.out).alloc _, _, i + 1, rfl, ⟨_, _, _, Nat.le_trans HG2.out.size HG3.out.size, rfl, rfl, Blk.made _ _ _⟩, by omega, rfl, HR3.out.alloc _⟩
    · rw [if_pos h2] at hy
      have hi2 := lt_of_is h2 (by decide)
      have H2 := Lib.hid (show isT (Bags.hd (ws.drop (i + 1))) 5 [Bags.str "."] = true from h2)
      by_cases h3 : (Bags.hd (ws.drop (i + 1 + 1))).sort = 2
      · rw [if_pos h3] at hy
        have hi3 := lt_of_sort h3 (by decide)
        have H3 := Lib.hid h3
        obtain ⟨rfl⟩ : some (_, _) = y := by simpa [Bags.ok] using hy
        clear hr h1 h2 h3 hy
        go_enter Tryz.func108, Tryz.ntmps108
        go_wp2_with (first | (go_at_call 64; refine (must_sort hC HR.out hi (by omega) H1.out).mono ?_; rintro e w2 ⟨rfl, hR, hG⟩; have HR2 := Lib.hid hR; have HG2 := Lib.hid hG; clear hR hG) | (go_at_call 83; refine (takes_yes hC HR2.out (by omega) (by omega) H2.out (by decide) (by decide) rfl (by first | rfl | simp) rfl).mono ?_; rintro e w3 ⟨rfl, hR, hG⟩; have HR3 := Lib.hid hR; have HG3 := Lib.hid hG; clear hR hG) | (go_at_call 64; refine (must_sort hC HR3.out (by omega) (by omega) H3.out).mono ?_; rintro e w4 ⟨rfl, hR, hG⟩; have HR4 := Lib.hid hR; have HG4 := Lib.hid hG; clear hR hG))
        go_ret
        exact ⟨((HG2.out.t HG3.out).t HG4.out).alloc _, _, i + 1 + 1 + 1, rfl, ⟨_, _, _, Nat.le_trans HG2.out.size (Nat.le_trans HG3.out.size HG4.out.size), rfl, rfl, Blk.made _ _ _⟩, by omega, rfl, HR4.out.alloc _⟩
      · rw [if_neg h3] at hy
        have H3 := Lib.hid h3
        obtain ⟨rfl⟩ : none = y := by simpa [Bags.miss] using hy
        clear hr h1 h2 h3 hy
        go_enter Tryz.func108, Tryz.ntmps108
        go_wp2_with (first | (go_at_call 64; refine (must_sort hC HR.out hi (by omega) H1.out).mono ?_; rintro e w2 ⟨rfl, hR, hG⟩; have HR2 := Lib.hid hR; have HG2 := Lib.hid hG; clear hR hG) | (go_at_call 83; refine (takes_yes hC HR2.out (by omega) (by omega) H2.out (by decide) (by decide) rfl (by first | rfl | simp) rfl).mono ?_; rintro e w3 ⟨rfl, hR, hG⟩; have HR3 := Lib.hid hR; have HG3 := Lib.hid hG; clear hR hG) | (go_at_call 64; refine (must_sort_no hC HR3.out (by omega) (by omega) H3.out).mono ?_; rintro e w4 ⟨rfl, hR, hG⟩; have HR4 := Lib.hid hR; have HG4 := Lib.hid hG; clear hR hG))
        exact ⟨rfl, (HG2.out.t HG3.out).t HG4.out, rfl, _, HR4.out⟩
  · rw [if_neg h1] at hy
    have H1 := Lib.hid h1
    obtain ⟨rfl⟩ : none = y := by simpa [Bags.miss] using hy
    clear hr h1 hy
    go_enter Tryz.func108, Tryz.ntmps108
    go_wp2_with (first | (go_at_call 64; refine (must_sort_no hC HR.out hi (by omega) H1.out).mono ?_; rintro e w2 ⟨rfl, hR, hG⟩; have HR2 := Lib.hid hR; have HG2 := Lib.hid hG; clear hR hG))
    exact ⟨rfl, HG2.out, rfl, _, HR2.out⟩
end Go.Proofs.YtoephflcjllaaaaGreatDoor
