/- Walks: the parser's methods with closures. -/
import Derived.Test.YtoephflcjllaaaaGreatDoorJ12
namespace Go.Proofs.YtoephflcjllaaaaGreatDoor
open Go.RowKit

theorem hmf : ∀ (fn : Fn) (first cap : Array Value) (w : World), (Instr.makeFunc fn first cap).run Tryz.prog w = .ok (.func fn first cap) w := fun _ _ _ _ => rfl
theorem isT_is' {l : List Bags.Str} (h0 : 0 < l.length) (s : Nat) (w : Bags.W) : isT w s l = w.is s l := by
  cases l with
  | nil => simp at h0
  | cons a l => exact isT_is w s a l
theorem Out.base {r A : Nat} {ws : List Bags.W} {W W1 : World} {y : Option (Bags.T × List Bags.W)} {e : Ending} {w' : World} (h : Out r A ws V1 W1 y e w') (hf : Fr (· = r) W W1) : Out r A ws V1 W y e w' := by
  obtain ⟨h1, h2⟩ := h
  refine ⟨hf.t h1, ?_⟩
  rcases y with _ | ⟨t, rest⟩
  · exact h2
  · obtain ⟨x, j, h3, h4, h5⟩ := h2
    exact ⟨x, j, h3, rep.fr (Fr.refl (fun _ => False) _) (fun _ h => h.elim) hf.size h4, h5⟩

theorem chain_cond_at (hC : ContSaid) {r A : Nat} {ws : List Bags.W} (hz : ws.length ≤ 1000) {W : World} {i s : Nat} {l : List Bags.Str} {cs : Array Value} {t : TypeId} {g k : Nat} (hr : Rdr W r A ws i) (hi : i ≤ ws.length) (hs : s ≠ 0)
    (h0 : 0 < l.length) (h8 : l.length ≤ 8) (hcs : cs = strs l) (hg : g = W.heap.size) (hk : k = l.length) {F : FuncId} {first cap : Array Value} (hent : ∀ (args : Array Value) (w : World), (callFunc F args).run Tryz.prog w = .ok (.enter F args) w)
    {J : FuncId} (hentJ : ∀ (args : Array Value) (w : World), (callFunc J args).run Tryz.prog w = .ok (.enter J args) w) {jn : Bags.Str → Bags.T → Bags.T → Bags.T} (hJ : Joins J jn)
    {mp : Bags.M} {mL : Bags.T → Bags.M} (hL0 : ∀ c ws, Bags.par 0 (mL c) ws = none) (hL : ∀ n c ws, Bags.par (n+1) (mL c) ws = if (Bags.hd ws).is s l then (Bags.par n mp ws.tail).andThen fun b r => Bags.par n (mL (jn (Bags.hd ws).text c b)) r else Bags.ok c ws)
    {n : Nat} (hF : Parses F (fun _ => first ++ cap) V1 mp n r A ws (fun W' => Fr (· = r) (W.alloc (.cells cs t)) W'))
    {y : Option (Bags.T × List Bags.W)} (hy : (Bags.par n mp (ws.drop i)).andThen (fun c r => Bags.par n (mL c) r) = some y) :
    Calls Tryz.prog 129 #[.pointer (some ⟨r, 0, none⟩), .int .i64 s, .slice (some ⟨g, 0, none⟩) k k, .func (.func F) first cap, .func (.func J) #[] #[]] (W.alloc (.cells cs t)) (Out r A ws V1 W y) := by
  subst hcs hg hk
  refine (chain_cond hC (Texts.lit h0 h8 W t) (isT_is' h0 s) hs (by omega) hent hentJ hJ hL0 hL hF (hr.alloc _) hi hy).mono ?_
  intro e w' h
  exact h.base ((Fr.refl _ _).alloc _)

theorem chain_expr_at (hC : ContSaid) {r A : Nat} {ws : List Bags.W} (hz : ws.length ≤ 1000) {W : World} {i s : Nat} {l : List Bags.Str} {cs : Array Value} {t : TypeId} {g k : Nat} (hr : Rdr W r A ws i) (hi : i ≤ ws.length) (hs : s ≠ 0)
    (h0 : 0 < l.length) (h8 : l.length ≤ 8) (hcs : cs = strs l) (hg : g = W.heap.size) (hk : k = l.length) {F : FuncId} {first cap : Array Value} (hent : ∀ (args : Array Value) (w : World), (callFunc F args).run Tryz.prog w = .ok (.enter F args) w)
    {J : FuncId} (hentJ : ∀ (args : Array Value) (w : World), (callFunc J args).run Tryz.prog w = .ok (.enter J args) w) {jn : Bags.Str → Bags.T → Bags.T → Bags.T} (hJ : Joins J jn)
    {mp : Bags.M} {mL : Bags.T → Bags.M} (hL0 : ∀ c ws, Bags.par 0 (mL c) ws = none) (hL : ∀ n c ws, Bags.par (n+1) (mL c) ws = if (Bags.hd ws).is s l then (Bags.par n mp ws.tail).andThen fun b r => Bags.par n (mL (jn (Bags.hd ws).text c b)) r else Bags.ok c ws)
    {n : Nat} (hF : Parses F (fun _ => first ++ cap) V1 mp n r A ws (fun W' => Fr (· = r) (W.alloc (.cells cs t)) W'))
    {y : Option (Bags.T × List Bags.W)} (hy : (Bags.par n mp (ws.drop i)).andThen (fun c r => Bags.par n (mL c) r) = some y) :
    Calls Tryz.prog 141 #[.pointer (some ⟨r, 0, none⟩), .int .i64 s, .slice (some ⟨g, 0, none⟩) k k, .func (.func F) first cap, .func (.func J) #[] #[]] (W.alloc (.cells cs t)) (Out r A ws V1 W y) := by
  subst hcs hg hk
  refine (chain_expr hC (Texts.lit h0 h8 W t) (isT_is' h0 s) hs (by omega) hent hentJ hJ hL0 hL hF (hr.alloc _) hi hy).mono ?_
  intro e w' h
  exact h.base ((Fr.refl _ _).alloc _)

set_option maxRecDepth 100000 in
set_option maxHeartbeats 2000000 in
theorem cond_part (hC : ContSaid) {r A : Nat} {ws : List Bags.W} (hz : ws.length ≤ 1000) {N : Nat} (hM : Meth 130 V1 .neg N r A ws) (p : Nat) :
    Parses 128 (fun _ => #[.pointer (some ⟨p, 0, none⟩)]) V1 .conj (N + 1) r A ws (fun W => ∃ t, Blk W p t #[.pointer (some ⟨r, 0, none⟩)]) := by
  intro n hn W i y hok hr hi hy
  cases n with
  | zero => simp [Bags.par] at hy
  | succ n =>
  obtain ⟨tp, hb⟩ := hok
  have hmf := hmf
  have c0 := hb.cell 0
  simp at c0
  have c1 := fun o => cell_alloc c0 o
  have HM := Lib.hid hM
  have HR := Lib.hid hr
  rw [Bags.par] at hy
  have HY := Lib.hid hy
  clear hr hy hM hb
  have HC := chain_cond_at hC hz (W := W) (s := 1) (cs := strs [Bags.str "and"]) (t := 9) (k := 1) HR.out hi (by decide) (l := [Bags.str "and"]) (by decide) (by decide) rfl rfl rfl (F := 130) (first := #[.pointer (some ⟨r, 0, none⟩)]) (cap := #[]) (fun _ _ => by kernel_rfl) (J := 131) (fun _ _ => by kernel_rfl) junct_joins (mL := .conjL) (fun _ _ => by rw [Bags.par]) (fun _ _ _ => by rw [Bags.par]) (fun n' h W' i y _ a b c => by simpa using HM.out n' (by omega) W' i y trivial a b c) HY.out
  rcases y with _ | ⟨t, rest⟩
  · go_enter Tryz.func128, Tryz.ntmps128
    go_wp2_with (go_at_call 129; refine HC.mono ?_; rintro e w2 ⟨hG, rfl, hR⟩)
    exact ⟨rfl, hG, rfl, hR⟩
  · go_enter Tryz.func128, Tryz.ntmps128
    go_wp2_with (go_at_call 129; refine HC.mono ?_; rintro e w2 ⟨hG, x, j, rfl, hx, hj, rfl, hR⟩; have HO := Lib.hid (And.intro hG (And.intro hx (And.intro hj hR))); clear hG hx hR)
    go_ret
    obtain ⟨hG, hx, hj, hR⟩ := HO.out
    exact ⟨hG, x, j, rfl, hx, hj, rfl, hR⟩

set_option maxRecDepth 100000 in
set_option maxHeartbeats 2000000 in
theorem expr_part (hC : ContSaid) {r A : Nat} {ws : List Bags.W} (hz : ws.length ≤ 1000) {N : Nat} (hM : Meth 142 V1 .factor N r A ws) (p : Nat) :
    Parses 140 (fun _ => #[.pointer (some ⟨p, 0, none⟩)]) V1 .term (N + 1) r A ws (fun W => ∃ t, Blk W p t #[.pointer (some ⟨r, 0, none⟩)]) := by
  intro n hn W i y hok hr hi hy
  cases n with
  | zero => simp [Bags.par] at hy
  | succ n =>
  obtain ⟨tp, hb⟩ := hok
  have hmf := hmf
  have c0 := hb.cell 0
  simp at c0
  have c1 := fun o => cell_alloc c0 o
  have HM := Lib.hid hM
  have HR := Lib.hid hr
  rw [Bags.par] at hy
  have HY := Lib.hid hy
  clear hr hy hM hb
  have HC := chain_expr_at hC hz (W := W) (s := 5) (cs := strs Bags.muls) (t := 9) (k := 3) HR.out hi (by decide) (l := Bags.muls) (by decide) (by decide) rfl rfl rfl (F := 142) (first := #[.pointer (some ⟨r, 0, none⟩)]) (cap := #[]) (fun _ _ => by kernel_rfl) (J := 143) (fun _ _ => by kernel_rfl) calc_joins (mL := .termL) (fun _ _ => by rw [Bags.par]) (fun _ _ _ => by rw [Bags.par]) (fun n' h W' i y _ a b c => by simpa using HM.out n' (by omega) W' i y trivial a b c) HY.out
  rcases y with _ | ⟨t, rest⟩
  · go_enter Tryz.func140, Tryz.ntmps140
    go_wp2_with (go_at_call 141; refine HC.mono ?_; rintro e w2 ⟨hG, rfl, hR⟩)
    exact ⟨rfl, hG, rfl, hR⟩
  · go_enter Tryz.func140, Tryz.ntmps140
    go_wp2_with (go_at_call 141; refine HC.mono ?_; rintro e w2 ⟨hG, x, j, rfl, hx, hj, rfl, hR⟩; have HO := Lib.hid (And.intro hG (And.intro hx (And.intro hj hR))); clear hG hx hR)
    go_ret
    obtain ⟨hG, hx, hj, hR⟩ := HO.out
    exact ⟨hG, x, j, rfl, hx, hj, rfl, hR⟩

set_option maxRecDepth 100000 in
set_option maxHeartbeats 2000000 in
theorem cond_any (hC : ContSaid) {r A : Nat} {ws : List Bags.W} (hz : ws.length ≤ 1000) {N : Nat} (hM : Meth 130 V1 .neg N r A ws) : Meth 106 V1 .cond (N + 1) r A ws := by
  intro n hn W i y hok hr hi hy
  cases n with
  | zero => simp [Bags.par] at hy
  | succ n =>
  have hmf := hmf
  have HM := Lib.hid hM
  have HR := Lib.hid hr
  rw [Bags.par] at hy
  have HY := Lib.hid hy
  have hlt := hr.lt
  clear hr hy hM
  have hbox := (Blk.made W 140 #[.pointer (some ⟨r, 0, none⟩)]).alloc (.cells (strs [Bags.str "or"]) 9)
  have HC := chain_cond_at hC hz (W := W.alloc (.cells #[.pointer (some ⟨r, 0, none⟩)] 140)) (s := 1) (cs := strs [Bags.str "or"]) (t := 9) (k := 1) (HR.out.alloc _) hi (by decide) (l := [Bags.str "or"]) (by decide) (by decide) rfl (g := W.heap.size + 1) (by simp) rfl (F := 128) (first := #[]) (cap := #[.pointer (some ⟨W.heap.size, 0, none⟩)]) (fun _ _ => by kernel_rfl) (J := 131) (fun _ _ => by kernel_rfl) junct_joins (mL := .condL) (fun _ _ => by rw [Bags.par]) (fun _ _ _ => by rw [Bags.par]) (fun n' h W' i y ho a b c => by simpa using cond_part hC hz HM.out W.heap.size n' (by omega) W' i y ⟨_, hbox.fr ho (by omega)⟩ a b c) HY.out
  clear hbox
  rcases y with _ | ⟨t, rest⟩
  · go_enter Tryz.func106, Tryz.ntmps106
    go_wp2_with (go_at_call 129; refine HC.mono ?_; rintro e w2 ⟨hG, rfl, hR⟩)
    exact ⟨rfl, ((Fr.refl _ _).alloc _).t hG, rfl, hR⟩
  · go_enter Tryz.func106, Tryz.ntmps106
    go_wp2_with (go_at_call 129; refine HC.mono ?_; rintro e w2 ⟨hG, x, j, rfl, hx, hj, rfl, hR⟩; have HO := Lib.hid (And.intro hG (And.intro hx (And.intro hj hR))); clear hG hx hR)
    go_ret
    obtain ⟨hG, hx, hj, hR⟩ := HO.out
    exact ⟨((Fr.refl _ _).alloc _).t hG, x, j, rfl, rep.fr (Fr.refl (fun _ => False) _) (fun _ h => h.elim) (by simp) hx, hj, rfl, hR⟩

set_option maxRecDepth 100000 in
set_option maxHeartbeats 2000000 in
theorem expr_any (hC : ContSaid) {r A : Nat} {ws : List Bags.W} (hz : ws.length ≤ 1000) {N : Nat} (hM : Meth 142 V1 .factor N r A ws) : Meth 126 V1 .expr (N + 1) r A ws := by
  intro n hn W i y hok hr hi hy
  cases n with
  | zero => simp [Bags.par] at hy
  | succ n =>
  have hmf := hmf
  have HM := Lib.hid hM
  have HR := Lib.hid hr
  rw [Bags.par] at hy
  have HY := Lib.hid hy
  have hlt := hr.lt
  clear hr hy hM
  have hbox := (Blk.made W 140 #[.pointer (some ⟨r, 0, none⟩)]).alloc (.cells (strs Bags.adds) 9)
  have HC := chain_expr_at hC hz (W := W.alloc (.cells #[.pointer (some ⟨r, 0, none⟩)] 140)) (s := 5) (cs := strs Bags.adds) (t := 9) (k := 2) (HR.out.alloc _) hi (by decide) (l := Bags.adds) (by decide) (by decide) rfl (g := W.heap.size + 1) (by simp) rfl (F := 140) (first := #[]) (cap := #[.pointer (some ⟨W.heap.size, 0, none⟩)]) (fun _ _ => by kernel_rfl) (J := 143) (fun _ _ => by kernel_rfl) calc_joins (mL := .exprL) (fun _ _ => by rw [Bags.par]) (fun _ _ _ => by rw [Bags.par]) (fun n' h W' i y ho a b c => by simpa using expr_part hC hz HM.out W.heap.size n' (by omega) W' i y ⟨_, hbox.fr ho (by omega)⟩ a b c) HY.out
  clear hbox
  rcases y with _ | ⟨t, rest⟩
  · go_enter Tryz.func126, Tryz.ntmps126
    go_wp2_with (go_at_call 141; refine HC.mono ?_; rintro e w2 ⟨hG, rfl, hR⟩)
    exact ⟨rfl, ((Fr.refl _ _).alloc _).t hG, rfl, hR⟩
  · go_enter Tryz.func126, Tryz.ntmps126
    go_wp2_with (go_at_call 141; refine HC.mono ?_; rintro e w2 ⟨hG, x, j, rfl, hx, hj, rfl, hR⟩; have HO := Lib.hid (And.intro hG (And.intro hx (And.intro hj hR))); clear hG hx hR)
    go_ret
    obtain ⟨hG, hx, hj, hR⟩ := HO.out
    exact ⟨((Fr.refl _ _).alloc _).t hG, x, j, rfl, rep.fr (Fr.refl (fun _ => False) _) (fun _ h => h.elim) (by simp) hx, hj, rfl, hR⟩

set_option maxRecDepth 100000 in
set_option maxHeartbeats 2000000 in
theorem negated_any (hC : ContSaid) {r A : Nat} {ws : List Bags.W} (hz : ws.length ≤ 1000) {N : Nat} (hB : Meth 144 V1 .basic N r A ws) (hM : Meth 130 V1 .neg N r A ws) : Meth 130 V1 .neg (N + 1) r A ws := by
  intro n hn W i y hok hr hi hy
  cases n with
  | zero => simp [Bags.par] at hy
  | succ n =>
  have HM := Lib.hid hM
  have HB := Lib.hid hB
  have HR := Lib.hid hr
  rw [Bags.par, List.tail_drop] at hy
  have hlt := hr.lt
  cases h1 : (Bags.hd (ws.drop i)).is 1 [Bags.str "not"]
  · rw [if_neg (by simp [h1])] at hy
    have H1 := Lib.hid (show isT (Bags.hd (ws.drop i)) 1 [Bags.str "not"] = false from h1)
    have HY := Lib.hid hy
    clear hr hy h1 hM hB
    rcases y with _ | ⟨t, rest⟩
    · go_enter Tryz.func130, Tryz.ntmps130
      go_wp2_with (first | (go_at_call 83; refine (takes_no hC HR.out hi (by omega) H1.out (by decide) (by decide) rfl (by first | rfl | simp) rfl).mono ?_; rintro e w2 ⟨rfl, hR, hG⟩; have HR2 := Lib.hid hR; have HG2 := Lib.hid hG; clear hR hG) | (go_at_call 144; refine (HB.out n (by omega) _ i _ trivial HR2.out hi HY.out).mono ?_; rintro e w3 ⟨hG, rfl, hR⟩; have HR3 := Lib.hid hR; have HG3 := Lib.hid hG; clear hR hG))
      exact ⟨rfl, HG2.out.t HG3.out, rfl, HR3.out⟩
    · go_enter Tryz.func130, Tryz.ntmps130
      go_wp2_with (first | (go_at_call 83; refine (takes_no hC HR.out hi (by omega) H1.out (by decide) (by decide) rfl (by first | rfl | simp) rfl).mono ?_; rintro e w2 ⟨rfl, hR, hG⟩; have HR2 := Lib.hid hR; have HG2 := Lib.hid hG; clear hR hG) | (go_at_call 144; refine (HB.out n (by omega) _ i _ trivial HR2.out hi HY.out).mono ?_; rintro e w3 ⟨hG, x3, j3, rfl, hx, hj3, rfl, hR⟩; have HR3 := Lib.hid hR; have HG3 := Lib.hid hG; clear hR hG))
      go_ret
      exact ⟨HG2.out.t HG3.out, _, j3, rfl, rep.fr (Fr.refl (fun _ => False) _) (fun _ h => h.elim) HG2.out.size hx, hj3, rfl, HR3.out⟩
  · rw [if_pos h1] at hy
    have hi1 := lt_of_is h1 (by decide)
    have H1 := Lib.hid (show isT (Bags.hd (ws.drop i)) 1 [Bags.str "not"] = true from h1)
    rcases Bags.andThen_some hy with ⟨hp, rfl⟩ | ⟨e, rest, hp, hy2⟩
    · have HP := Lib.hid hp
      clear hr hy h1 hM hB hp
      go_enter Tryz.func130, Tryz.ntmps130
      go_wp2_with (first | (go_at_call 83; refine (takes_yes hC HR.out hi (by omega) H1.out (by decide) (by decide) rfl (by first | rfl | simp) rfl).mono ?_; rintro e w2 ⟨rfl, hR, hG⟩; have HR2 := Lib.hid hR; have HG2 := Lib.hid hG; clear hR hG) | (go_at_call 130; refine (HM.out n (by omega) _ (i + 1) _ trivial HR2.out (by omega) HP.out).mono ?_; rintro e w3 ⟨hG, rfl, hR⟩; have HR3 := Lib.hid hR; have HG3 := Lib.hid hG; clear hR hG))
      exact ⟨rfl, HG2.out.t HG3.out, rfl, HR3.out⟩
    · have HP := Lib.hid hp
      obtain ⟨rfl⟩ : some (_, _) = y := by simpa [Bags.ok] using hy2
      clear hr hy h1 hM hB hp
      go_enter Tryz.func130, Tryz.ntmps130
      go_wp2_with (first | (go_at_call 83; refine (takes_yes hC HR.out hi (by omega) H1.out (by decide) (by decide) rfl (by first | rfl | simp) rfl).mono ?_; rintro e w2 ⟨rfl, hR, hG⟩; have HR2 := Lib.hid hR; have HG2 := Lib.hid hG; clear hR hG) | (go_at_call 130; refine (HM.out n (by omega) _ (i + 1) _ trivial HR2.out (by omega) HP.out).mono ?_; rintro e w3 ⟨hG, x3, j3, rfl, hx, hj3, rfl, hR⟩; have HR3 := Lib.hid hR; have HG3 := Lib.hid hG; clear hR hG; obtain ⟨tp, vp, rfl⟩ := hx.iface; have HX := Lib.hid (show rep _ _ _ _ from hx); clear hx))
      go_ret
      have hs := Nat.le_trans HG2.out.size HG3.out.size
      exact ⟨(HG2.out.t HG3.out).alloc _, _, j3, rfl, ⟨_, HX.out.fr ((Fr.refl (fun _ => False) _).alloc _) (fun _ h => h.elim) HG2.out.size, _, hs, rfl, Blk.made _ _ _⟩, hj3, rfl, HR3.out.alloc _⟩
end Go.Proofs.YtoephflcjllaaaaGreatDoor
/- Walks: what stands in brackets; query. -/
namespace Go.Proofs.YtoephflcjllaaaaGreatDoor
open Go.RowKit
set_option linter.unusedVariables false

set_option maxRecDepth 100000 in
set_option maxHeartbeats 2000000 in
theorem fillq_no (hC : ContSaid) {r A : Nat} {ws : List Bags.W} (hz : ws.length ≤ 1000) {N : Nat} (hM : Meth 63 V1 .query N r A ws) {n : Nat} (hn : n ≤ N) {W : World} {i p1 p2 : Nat} {t1 t2 : TypeId} {x0 : Value} (b1 : Blk W p1 t1 #[.pointer (some ⟨r, 0, none⟩)])
    (b2 : Blk W p2 t2 #[x0]) (hpr : p2 ≠ r) (hr : Rdr W r A ws i) (hi : i ≤ ws.length) (V : Value → World → Prop) (hy : Bags.par n .query (ws.drop i) = some none) :
    Calls Tryz.prog 125 #[.pointer (some ⟨p1, 0, none⟩), .pointer (some ⟨p2, 0, none⟩)] W (fun e w' => Does (fun k => k = r ∨ k = p2) r A ws none V W e w' ∧ ∃ v, Blk w' p2 t2 #[v]) := by
  have HB2 := Lib.hid b2
  have HM := Lib.hid hM
  have HR := Lib.hid hr
  have HY := Lib.hid hy
  have c0 := b1.cell 0
  simp at c0
  clear hr hy hM b1 b2
  go_enter Tryz.func125, Tryz.ntmps125
  go_wp2_with (first | (go_at_call 63; refine (HM.out n hn _ i _ trivial HR.out hi HY.out).mono ?_; rintro e w2 ⟨hG, rfl, hR⟩; have HR2 := Lib.hid hR; have HG2 := Lib.hid hG; clear hR hG))
  exact ⟨rfl, ⟨HG2.out.mono (fun _ _ h => .inl h), rfl, HR2.out⟩, _, HB2.out.fr HG2.out hpr⟩
set_option maxRecDepth 100000 in
set_option maxHeartbeats 2000000 in
theorem fillq_yes (hC : ContSaid) {r A : Nat} {ws : List Bags.W} (hz : ws.length ≤ 1000) {N : Nat} (hM : Meth 63 V1 .query N r A ws) {n : Nat} (hn : n ≤ N) {W : World} {i j p1 p2 : Nat} {t1 t2 : TypeId} {x0 : Value} (b1 : Blk W p1 t1 #[.pointer (some ⟨r, 0, none⟩)])
    (b2 : Blk W p2 t2 #[x0]) (hpr : p2 ≠ r) (hpA : p2 ≠ A) (hr : Rdr W r A ws i) (hi : i ≤ ws.length) (hj : j ≤ ws.length) {t : Bags.T} (hy : Bags.par n .query (ws.drop i) = some (some (t, ws.drop j))) :
    Calls Tryz.prog 125 #[.pointer (some ⟨p1, 0, none⟩), .pointer (some ⟨p2, 0, none⟩)] W (Does (fun k => k = r ∨ k = p2) r A ws (some j) (fun x w' => x = .tuple #[] ∧ ∃ v, Blk w' p2 t2 #[v] ∧ rep w' W.heap.size t [v]) W) := by
  have HM := Lib.hid hM
  have HR := Lib.hid hr
  have HY := Lib.hid hy
  have HB2 := Lib.hid b2
  have c0 := b1.cell 0
  have hlt := hr.lt
  have hlt2 := b2.lt
  simp at c0
  clear hr hy hM b1 b2
  go_enter Tryz.func125, Tryz.ntmps125
  go_wp2_with (first | (go_at_call 63; refine (HM.out n hn _ i _ trivial HR.out hi HY.out).mono ?_; rintro e w2 ⟨hG, x2, j2, rfl, hx, hj2, hdr, hR⟩; have HR2 := Lib.hid hR; have HG2 := Lib.hid hG; clear hR hG; obtain rfl : j = j2 := drop_inj hj hj2 hdr; obtain ⟨tp, vp, rfl⟩ := hx.iface; have HX := Lib.hid (show rep _ _ _ _ from hx); clear hx; have hb2 := HB2.out.fr HG2.out hpr; have HB3 := Lib.hid hb2; have d0 := hb2.cell 0; have g0 := hb2.free 0; simp at d0; clear hb2))
  have hput := HB3.out.put 0 (.iface tp vp)
  have hf : Fr (· = p2) w2 (w2.setCell ⟨p2, 0, none⟩ (.iface tp vp)) := (Fr.refl (· = p2) w2).set (.inr rfl) _
  refine bodyPost_end (results_none rfl _ _ _) rfl ⟨(HG2.out.mono (fun _ _ h => .inl h)).t (hf.mono (fun _ _ h => .inr h)), ⟨_, rfl, rfl, _, by simpa using hput, HX.out.fr hf (fun k h => h ▸ hlt2) (Nat.le_refl _)⟩, HR2.out.fr hf (fun h => hpr h.symm) (fun h => hpA h.symm)⟩

set_option maxRecDepth 100000 in
set_option maxHeartbeats 2000000 in
theorem fillc_no (hC : ContSaid) {r A : Nat} {ws : List Bags.W} (hz : ws.length ≤ 1000) {N : Nat} (hM : Meth 106 V1 .cond N r A ws) {n : Nat} (hn : n ≤ N) {W : World} {i p1 p2 : Nat} {t1 t2 : TypeId} {x0 : Value} (b1 : Blk W p1 t1 #[.pointer (some ⟨r, 0, none⟩)])
    (b2 : Blk W p2 t2 #[x0]) (hpr : p2 ≠ r) (hr : Rdr W r A ws i) (hi : i ≤ ws.length) (V : Value → World → Prop) (hy : Bags.par n .cond (ws.drop i) = some none) :
    Calls Tryz.prog 149 #[.pointer (some ⟨p1, 0, none⟩), .pointer (some ⟨p2, 0, none⟩)] W (fun e w' => Does (fun k => k = r ∨ k = p2) r A ws none V W e w' ∧ ∃ v, Blk w' p2 t2 #[v]) := by
  have HB2 := Lib.hid b2
  have HM := Lib.hid hM
  have HR := Lib.hid hr
  have HY := Lib.hid hy
  have c0 := b1.cell 0
  simp at c0
  clear hr hy hM b1 b2
  go_enter Tryz.func149, Tryz.ntmps149
  go_wp2_with (first | (go_at_call 106; refine (HM.out n hn _ i _ trivial HR.out hi HY.out).mono ?_; rintro e w2 ⟨hG, rfl, hR⟩; have HR2 := Lib.hid hR; have HG2 := Lib.hid hG; clear hR hG))
  exact ⟨rfl, ⟨HG2.out.mono (fun _ _ h => .inl h), rfl, HR2.out⟩, _, HB2.out.fr HG2.out hpr⟩
set_option maxRecDepth 100000 in
set_option maxHeartbeats 2000000 in
theorem fillc_yes (hC : ContSaid) {r A : Nat} {ws : List Bags.W} (hz : ws.length ≤ 1000) {N : Nat} (hM : Meth 106 V1 .cond N r A ws) {n : Nat} (hn : n ≤ N) {W : World} {i j p1 p2 : Nat} {t1 t2 : TypeId} {x0 : Value} (b1 : Blk W p1 t1 #[.pointer (some ⟨r, 0, none⟩)])
    (b2 : Blk W p2 t2 #[x0]) (hpr : p2 ≠ r) (hpA : p2 ≠ A) (hr : Rdr W r A ws i) (hi : i ≤ ws.length) (hj : j ≤ ws.length) {t : Bags.T} (hy : Bags.par n .cond (ws.drop i) = some (some (t, ws.drop j))) :
    Calls Tryz.prog 149 #[.pointer (some ⟨p1, 0, none⟩), .pointer (some ⟨p2, 0, none⟩)] W (Does (fun k => k = r ∨ k = p2) r A ws (some j) (fun x w' => x = .tuple #[] ∧ ∃ v, Blk w' p2 t2 #[v] ∧ rep w' W.heap.size t [v]) W) := by
  have HM := Lib.hid hM
  have HR := Lib.hid hr
  have HY := Lib.hid hy
  have HB2 := Lib.hid b2
  have c0 := b1.cell 0
  have hlt := hr.lt
  have hlt2 := b2.lt
  simp at c0
  clear hr hy hM b1 b2
  go_enter Tryz.func149, Tryz.ntmps149
  go_wp2_with (first | (go_at_call 106; refine (HM.out n hn _ i _ trivial HR.out hi HY.out).mono ?_; rintro e w2 ⟨hG, x2, j2, rfl, hx, hj2, hdr, hR⟩; have HR2 := Lib.hid hR; have HG2 := Lib.hid hG; clear hR hG; obtain rfl : j = j2 := drop_inj hj hj2 hdr; obtain ⟨tp, vp, rfl⟩ := hx.iface; have HX := Lib.hid (show rep _ _ _ _ from hx); clear hx; have hb2 := HB2.out.fr HG2.out hpr; have HB3 := Lib.hid hb2; have d0 := hb2.cell 0; have g0 := hb2.free 0; simp at d0; clear hb2))
  have hput := HB3.out.put 0 (.iface tp vp)
  have hf : Fr (· = p2) w2 (w2.setCell ⟨p2, 0, none⟩ (.iface tp vp)) := (Fr.refl (· = p2) w2).set (.inr rfl) _
  refine bodyPost_end (results_none rfl _ _ _) rfl ⟨(HG2.out.mono (fun _ _ h => .inl h)).t (hf.mono (fun _ _ h => .inr h)), ⟨_, rfl, rfl, _, by simpa using hput, HX.out.fr hf (fun k h => h ▸ hlt2) (Nat.le_refl _)⟩, HR2.out.fr hf (fun h => hpr h.symm) (fun h => hpA h.symm)⟩

set_option maxRecDepth 100000 in
set_option maxHeartbeats 2000000 in
theorem fille_no (hC : ContSaid) {r A : Nat} {ws : List Bags.W} (hz : ws.length ≤ 1000) {N : Nat} (hM : Meth 126 V1 .expr N r A ws) {n : Nat} (hn : n ≤ N) {W : World} {i p1 p2 : Nat} {t1 t2 : TypeId} {x0 : Value} (b1 : Blk W p1 t1 #[.pointer (some ⟨r, 0, none⟩)])
    (b2 : Blk W p2 t2 #[x0]) (hpr : p2 ≠ r) (hr : Rdr W r A ws i) (hi : i ≤ ws.length) (V : Value → World → Prop) (hy : Bags.par n .expr (ws.drop i) = some none) :
    Calls Tryz.prog 147 #[.pointer (some ⟨p1, 0, none⟩), .pointer (some ⟨p2, 0, none⟩)] W (fun e w' => Does (fun k => k = r ∨ k = p2) r A ws none V W e w' ∧ ∃ v, Blk w' p2 t2 #[v]) := by
  have HB2 := Lib.hid b2
  have HM := Lib.hid hM
  have HR := Lib.hid hr
  have HY := Lib.hid hy
  have c0 := b1.cell 0
  simp at c0
  clear hr hy hM b1 b2
  go_enter Tryz.func147, Tryz.ntmps147
  go_wp2_with (first | (go_at_call 126; refine (HM.out n hn _ i _ trivial HR.out hi HY.out).mono ?_; rintro e w2 ⟨hG, rfl, hR⟩; have HR2 := Lib.hid hR; have HG2 := Lib.hid hG; clear hR hG))
  exact ⟨rfl, ⟨HG2.out.mono (fun _ _ h => .inl h), rfl, HR2.out⟩, _, HB2.out.fr HG2.out hpr⟩
set_option maxRecDepth 100000 in
set_option maxHeartbeats 2000000 in
theorem fille_yes (hC : ContSaid) {r A : Nat} {ws : List Bags.W} (hz : ws.length ≤ 1000) {N : Nat} (hM : Meth 126 V1 .expr N r A ws) {n : Nat} (hn : n ≤ N) {W : World} {i j p1 p2 : Nat} {t1 t2 : TypeId} {x0 : Value} (b1 : Blk W p1 t1 #[.pointer (some ⟨r, 0, none⟩)])
    (b2 : Blk W p2 t2 #[x0]) (hpr : p2 ≠ r) (hpA : p2 ≠ A) (hr : Rdr W r A ws i) (hi : i ≤ ws.length) (hj : j ≤ ws.length) {t : Bags.T} (hy : Bags.par n .expr (ws.drop i) = some (some (t, ws.drop j))) :
    Calls Tryz.prog 147 #[.pointer (some ⟨p1, 0, none⟩), .pointer (some ⟨p2, 0, none⟩)] W (Does (fun k => k = r ∨ k = p2) r A ws (some j) (fun x w' => x = .tuple #[] ∧ ∃ v, Blk w' p2 t2 #[v] ∧ rep w' W.heap.size t [v]) W) := by
  have HM := Lib.hid hM
  have HR := Lib.hid hr
  have HY := Lib.hid hy
  have HB2 := Lib.hid b2
  have c0 := b1.cell 0
  have hlt := hr.lt
  have hlt2 := b2.lt
  simp at c0
  clear hr hy hM b1 b2
  go_enter Tryz.func147, Tryz.ntmps147
  go_wp2_with (first | (go_at_call 126; refine (HM.out n hn _ i _ trivial HR.out hi HY.out).mono ?_; rintro e w2 ⟨hG, x2, j2, rfl, hx, hj2, hdr, hR⟩; have HR2 := Lib.hid hR; have HG2 := Lib.hid hG; clear hR hG; obtain rfl : j = j2 := drop_inj hj hj2 hdr; obtain ⟨tp, vp, rfl⟩ := hx.iface; have HX := Lib.hid (show rep _ _ _ _ from hx); clear hx; have hb2 := HB2.out.fr HG2.out hpr; have HB3 := Lib.hid hb2; have d0 := hb2.cell 0; have g0 := hb2.free 0; simp at d0; clear hb2))
  have hput := HB3.out.put 0 (.iface tp vp)
  have hf : Fr (· = p2) w2 (w2.setCell ⟨p2, 0, none⟩ (.iface tp vp)) := (Fr.refl (· = p2) w2).set (.inr rfl) _
  refine bodyPost_end (results_none rfl _ _ _) rfl ⟨(HG2.out.mono (fun _ _ h => .inl h)).t (hf.mono (fun _ _ h => .inr h)), ⟨_, rfl, rfl, _, by simpa using hput, HX.out.fr hf (fun k h => h ▸ hlt2) (Nat.le_refl _)⟩, HR2.out.fr hf (fun h => hpr h.symm) (fun h => hpA h.symm)⟩

theorem brackq (hC : ContSaid) {r A : Nat} {ws : List Bags.W} (hz : ws.length ≤ 1000) {N : Nat} (hM : Meth 63 V1 .query N r A ws) {n : Nat} (hn : n ≤ N) {W : World} {i p1 p2 : Nat} {t1 t2 : TypeId} {x0 : Value} (b1 : Blk W p1 t1 #[.pointer (some ⟨r, 0, none⟩)])
    (b2 : Blk W p2 t2 #[x0]) (hpr : p2 ≠ r) (hpr1 : p1 ≠ r) (hpA : p2 ≠ A) (hr : Rdr W r A ws i) (hi : i ≤ ws.length) {y : Option (Bags.T × List Bags.W)}
    (hy : (if (Bags.hd (ws.drop i)).is 5 [Bags.str "("] then (Bags.par n .query (ws.drop (i + 1))).andThen fun q r => if (Bags.hd r).is 5 [Bags.str ")"] then Bags.ok q r.tail else Bags.miss else Bags.miss) = some y) :
    (y = none → Calls Tryz.prog 124 #[.pointer (some ⟨r, 0, none⟩), .func (.func 125) #[] #[.pointer (some ⟨p1, 0, none⟩), .pointer (some ⟨p2, 0, none⟩)]] W (fun e w' => Does (fun k => k = r ∨ k = p2) r A ws none (fun _ _ => True) W e w' ∧ ∃ v, Blk w' p2 t2 #[v])) ∧
    (∀ t rest, y = some (t, rest) → ∃ j, j ≤ ws.length ∧ rest = ws.drop j ∧
      Calls Tryz.prog 124 #[.pointer (some ⟨r, 0, none⟩), .func (.func 125) #[] #[.pointer (some ⟨p1, 0, none⟩), .pointer (some ⟨p2, 0, none⟩)]] W
        (Does (fun k => k = r ∨ k = p2) r A ws (some j) (fun x w' => x = .tuple #[] ∧ ∃ v, Blk w' p2 t2 #[v] ∧ rep w' W.heap.size t [v]) W)) := by
  have hent : ∀ (args : Array Value) (w : World), (callFunc 125 args).run Tryz.prog w = .ok (.enter 125 args) w := fun _ _ => by kernel_rfl
  have hl1 := b1.lt
  have hl2 := b2.lt
  have hlr := hr.lt
  have hS : ∀ k, (k = r ∨ k = p2) → k < W.heap.size := fun k hk => by rcases hk with rfl | rfl <;> assumption
  have hI0 : (fun w => ∃ v, Blk w p2 t2 #[v]) W := ⟨_, b2⟩
  have hI : ∀ w1 w2, (fun w => ∃ v, Blk w p2 t2 #[v]) w1 → Fr (· = r) w1 w2 → (fun w => ∃ v, Blk w p2 t2 #[v]) w2 := fun w1 w2 h hf => ⟨_, h.choose_spec.fr hf hpr⟩
  cases h1 : (Bags.hd (ws.drop i)).is 5 [Bags.str "("]
  · rw [if_neg (by simp [h1])] at hy
    obtain ⟨rfl⟩ : none = y := by simpa [Bags.miss] using hy
    refine ⟨fun _ => ?_, fun _ _ h => (by cases h)⟩
    refine (inBrackets_any hC hr hi (by omega) (S := fun k => k = r ∨ k = p2) hS (.inl rfl) hent (o := none) (by simp) (by simp [h1]) (V := fun _ _ => True) (I := fun w => ∃ v, Blk w p2 t2 #[v]) hI0 hI (fun _ _ _ h => by simp [h1] at h)).mono ?_
    rintro e w' ⟨⟨h2, h3⟩, h4⟩
    simp only [h1, Bool.false_eq_true, if_false] at h3
    exact ⟨⟨h2, h3⟩, h4⟩
  · rw [if_pos h1] at hy
    have hi1 := lt_of_is h1 (by decide)
    rcases Bags.andThen_some hy with ⟨hp, rfl⟩ | ⟨q, rest, hp, hy2⟩
    · refine ⟨fun _ => ?_, fun _ _ h => (by cases h)⟩
      refine (inBrackets_any hC hr hi (by omega) (S := fun k => k = r ∨ k = p2) hS (.inl rfl) hent (o := none) (by simp) (fun _ => by omega) (V := fun _ _ => True) (I := fun w => ∃ v, Blk w p2 t2 #[v]) hI0 hI (fun W' hf hr' _ => by simpa using fillq_no hC hz hM hn (b1.fr hf hpr1) (b2.fr hf hpr) hpr hr' (by omega) (fun _ _ => True) hp)).mono ?_
      rintro e w' ⟨⟨h2, h3⟩, h4⟩
      simp only [h1, if_true, Option.bind_none] at h3
      exact ⟨⟨h2, h3⟩, h4⟩
    · obtain ⟨j, q1, q2, rfl⟩ := drop_of hp (by omega)
      cases h2 : (Bags.hd (ws.drop j)).is 5 [Bags.str ")"]
      · rw [if_neg (by simp [h2])] at hy2
        obtain ⟨rfl⟩ : none = y := by simpa [Bags.miss] using hy2
        refine ⟨fun _ => ?_, fun _ _ h => (by cases h)⟩
        refine (inBrackets_any hC hr hi (by omega) (S := fun k => k = r ∨ k = p2) hS (.inl rfl) hent (o := some j) (by simpa using q2) (fun _ => by omega) (V := fun x w' => True) (I := fun w => ∃ v, Blk w p2 t2 #[v]) hI0 hI (fun W' hf hr' _ => by
          simpa using (fillq_yes hC hz hM hn (b1.fr hf hpr1) (b2.fr hf hpr) hpr hpA hr' (by omega) q2 hp).mono fun e w' h => ⟨⟨h.1, ⟨h.2.1.choose, h.2.1.choose_spec.1, trivial⟩, h.2.2⟩, by obtain ⟨_, ⟨_, _, _, v, hv, _⟩, _⟩ := h; exact ⟨v, hv⟩⟩)).mono ?_
        rintro e w' ⟨⟨h3, h4⟩, h5⟩
        simp only [h1, if_true, Option.bind_some, h2, Bool.false_eq_true, if_false] at h4
        exact ⟨⟨h3, h4⟩, h5⟩
      · rw [if_pos h2, List.tail_drop] at hy2
        obtain ⟨rfl⟩ : some (_, _) = y := by simpa [Bags.ok] using hy2
        have hj2 := lt_of_is h2 (by decide)
        refine ⟨fun h => (by cases h), fun t rest h => ?_⟩
        cases h
        refine ⟨j + 1, by omega, rfl, ?_⟩
        refine (inBrackets_any hC hr hi (by omega) (S := fun k => k = r ∨ k = p2) hS (.inl rfl) hent (o := some j) (by simpa using q2) (fun _ => by omega) (V := fun x w' => x = .tuple #[] ∧ ∃ v, Blk w' p2 t2 #[v] ∧ rep w' W.heap.size q [v]) (I := fun w => ∃ v, Blk w p2 t2 #[v]) hI0 hI (fun W' hf hr' _ => by
          simpa using (fillq_yes hC hz hM hn (b1.fr hf hpr1) (b2.fr hf hpr) hpr hpA hr' (by omega) q2 hp).mono fun e w' h => by
            obtain ⟨g1, ⟨x, g2, g3, v, g4, g5⟩, g6⟩ := h
            exact ⟨⟨g1, ⟨x, g2, g3, v, g4, g5.fr (Fr.refl (fun _ => False) _) (fun _ h => h.elim) hf.size⟩, g6⟩, v, g4⟩)).mono ?_
        rintro e w' ⟨⟨h3, h4⟩, _⟩
        simp only [h1, if_true, Option.bind_some, h2] at h4
        obtain ⟨⟨x, g1, g2, z, w1, ⟨g3, v, g4, g5⟩, g6⟩, g7⟩ := h4
        exact ⟨h3, ⟨x, g1, g2, v, g4.fr g6 hpr, g5.fr g6 (fun k h => h ▸ hlr) (Nat.le_refl _)⟩, g7⟩

theorem brackc (hC : ContSaid) {r A : Nat} {ws : List Bags.W} (hz : ws.length ≤ 1000) {N : Nat} (hM : Meth 106 V1 .cond N r A ws) {n : Nat} (hn : n ≤ N) {W : World} {i p1 p2 : Nat} {t1 t2 : TypeId} {x0 : Value} (b1 : Blk W p1 t1 #[.pointer (some ⟨r, 0, none⟩)])
    (b2 : Blk W p2 t2 #[x0]) (hpr : p2 ≠ r) (hpr1 : p1 ≠ r) (hpA : p2 ≠ A) (hr : Rdr W r A ws i) (hi : i ≤ ws.length) {y : Option (Bags.T × List Bags.W)}
    (hy : (if (Bags.hd (ws.drop i)).is 5 [Bags.str "("] then (Bags.par n .cond (ws.drop (i + 1))).andThen fun q r => if (Bags.hd r).is 5 [Bags.str ")"] then Bags.ok q r.tail else Bags.miss else Bags.miss) = some y) :
    (y = none → Calls Tryz.prog 124 #[.pointer (some ⟨r, 0, none⟩), .func (.func 149) #[] #[.pointer (some ⟨p1, 0, none⟩), .pointer (some ⟨p2, 0, none⟩)]] W (fun e w' => Does (fun k => k = r ∨ k = p2) r A ws none (fun _ _ => True) W e w' ∧ ∃ v, Blk w' p2 t2 #[v])) ∧
    (∀ t rest, y = some (t, rest) → ∃ j, j ≤ ws.length ∧ rest = ws.drop j ∧
      Calls Tryz.prog 124 #[.pointer (some ⟨r, 0, none⟩), .func (.func 149) #[] #[.pointer (some ⟨p1, 0, none⟩), .pointer (some ⟨p2, 0, none⟩)]] W
        (Does (fun k => k = r ∨ k = p2) r A ws (some j) (fun x w' => x = .tuple #[] ∧ ∃ v, Blk w' p2 t2 #[v] ∧ rep w' W.heap.size t [v]) W)) := by
  have hent : ∀ (args : Array Value) (w : World), (callFunc 149 args).run Tryz.prog w = .ok (.enter 149 args) w := fun _ _ => by kernel_rfl
  have hl1 := b1.lt
  have hl2 := b2.lt
  have hlr := hr.lt
  have hS : ∀ k, (k = r ∨ k = p2) → k < W.heap.size := fun k hk => by rcases hk with rfl | rfl <;> assumption
  have hI0 : (fun w => ∃ v, Blk w p2 t2 #[v]) W := ⟨_, b2⟩
  have hI : ∀ w1 w2, (fun w => ∃ v, Blk w p2 t2 #[v]) w1 → Fr (· = r) w1 w2 → (fun w => ∃ v, Blk w p2 t2 #[v]) w2 := fun w1 w2 h hf => ⟨_, h.choose_spec.fr hf hpr⟩
  cases h1 : (Bags.hd (ws.drop i)).is 5 [Bags.str "("]
  · rw [if_neg (by simp [h1])] at hy
    obtain ⟨rfl⟩ : none = y := by simpa [Bags.miss] using hy
    refine ⟨fun _ => ?_, fun _ _ h => (by cases h)⟩
    refine (inBrackets_any hC hr hi (by omega) (S := fun k => k = r ∨ k = p2) hS (.inl rfl) hent (o := none) (by simp) (by simp [h1]) (V := fun _ _ => True) (I := fun w => ∃ v, Blk w p2 t2 #[v]) hI0 hI (fun _ _ _ h => by simp [h1] at h)).mono ?_
    rintro e w' ⟨⟨h2, h3⟩, h4⟩
    simp only [h1, Bool.false_eq_true, if_false] at h3
    exact ⟨⟨h2, h3⟩, h4⟩
  · rw [if_pos h1] at hy
    have hi1 := lt_of_is h1 (by decide)
    rcases Bags.andThen_some hy with ⟨hp, rfl⟩ | ⟨q, rest, hp, hy2⟩
    · refine ⟨fun _ => ?_, fun _ _ h => (by cases h)⟩
      refine (inBrackets_any hC hr hi (by omega) (S := fun k => k = r ∨ k = p2) hS (.inl rfl) hent (o := none) (by simp) (fun _ => by omega) (V := fun _ _ => True) (I := fun w => ∃ v, Blk w p2 t2 #[v]) hI0 hI (fun W' hf hr' _ => by simpa using fillc_no hC hz hM hn (b1.fr hf hpr1) (b2.fr hf hpr) hpr hr' (by omega) (fun _ _ => True) hp)).mono ?_
      rintro e w' ⟨⟨h2, h3⟩, h4⟩
      simp only [h1, if_true, Option.bind_none] at h3
      exact ⟨⟨h2, h3⟩, h4⟩
    · obtain ⟨j, q1, q2, rfl⟩ := drop_of hp (by omega)
      cases h2 : (Bags.hd (ws.drop j)).is 5 [Bags.str ")"]
      · rw [if_neg (by simp [h2])] at hy2
        obtain ⟨rfl⟩ : none = y := by simpa [Bags.miss] using hy2
        refine ⟨fun _ => ?_, fun _ _ h => (by cases h)⟩
        refine (inBrackets_any hC hr hi (by omega) (S := fun k => k = r ∨ k = p2) hS (.inl rfl) hent (o := some j) (by simpa using q2) (fun _ => by omega) (V := fun x w' => True) (I := fun w => ∃ v, Blk w p2 t2 #[v]) hI0 hI (fun W' hf hr' _ => by
          simpa using (fillc_yes hC hz hM hn (b1.fr hf hpr1) (b2.fr hf hpr) hpr hpA hr' (by omega) q2 hp).mono fun e w' h => ⟨⟨h.1, ⟨h.2.1.choose, h.2.1.choose_spec.1, trivial⟩, h.2.2⟩, by obtain ⟨_, ⟨_, _, _, v, hv, _⟩, _⟩ := h; exact ⟨v, hv⟩⟩)).mono ?_
        rintro e w' ⟨⟨h3, h4⟩, h5⟩
        simp only [h1, if_true, Option.bind_some, h2, Bool.false_eq_true, if_false] at h4
        exact ⟨⟨h3, h4⟩, h5⟩
      · rw [if_pos h2, List.tail_drop] at hy2
        obtain ⟨rfl⟩ : some (_, _) = y := by simpa [Bags.ok] using hy2
        have hj2 := lt_of_is h2 (by decide)
        refine ⟨fun h => (by cases h), fun t rest h => ?_⟩
        cases h
        refine ⟨j + 1, by omega, rfl, ?_⟩
        refine (inBrackets_any hC hr hi (by omega) (S := fun k => k = r ∨ k = p2) hS (.inl rfl) hent (o := some j) (by simpa using q2) (fun _ => by omega) (V := fun x w' => x = .tuple #[] ∧ ∃ v, Blk w' p2 t2 #[v] ∧ rep w' W.heap.size q [v]) (I := fun w => ∃ v, Blk w p2 t2 #[v]) hI0 hI (fun W' hf hr' _ => by
          simpa using (fillc_yes hC hz hM hn (b1.fr hf hpr1) (b2.fr hf hpr) hpr hpA hr' (by omega) q2 hp).mono fun e w' h => by
            obtain ⟨g1, ⟨x, g2, g3, v, g4, g5⟩, g6⟩ := h
            exact ⟨⟨g1, ⟨x, g2, g3, v, g4, g5.fr (Fr.refl (fun _ => False) _) (fun _ h => h.elim) hf.size⟩, g6⟩, v, g4⟩)).mono ?_
        rintro e w' ⟨⟨h3, h4⟩, _⟩
        simp only [h1, if_true, Option.bind_some, h2] at h4
        obtain ⟨⟨x, g1, g2, z, w1, ⟨g3, v, g4, g5⟩, g6⟩, g7⟩ := h4
        exact ⟨h3, ⟨x, g1, g2, v, g4.fr g6 hpr, g5.fr g6 (fun k h => h ▸ hlr) (Nat.le_refl _)⟩, g7⟩

theorem bracke (hC : ContSaid) {r A : Nat} {ws : List Bags.W} (hz : ws.length ≤ 1000) {N : Nat} (hM : Meth 126 V1 .expr N r A ws) {n : Nat} (hn : n ≤ N) {W : World} {i p1 p2 : Nat} {t1 t2 : TypeId} {x0 : Value} (b1 : Blk W p1 t1 #[.pointer (some ⟨r, 0, none⟩)])
    (b2 : Blk W p2 t2 #[x0]) (hpr : p2 ≠ r) (hpr1 : p1 ≠ r) (hpA : p2 ≠ A) (hr : Rdr W r A ws i) (hi : i ≤ ws.length) {y : Option (Bags.T × List Bags.W)}
    (hy : (if (Bags.hd (ws.drop i)).is 5 [Bags.str "("] then (Bags.par n .expr (ws.drop (i + 1))).andThen fun q r => if (Bags.hd r).is 5 [Bags.str ")"] then Bags.ok q r.tail else Bags.miss else Bags.miss) = some y) :
    (y = none → Calls Tryz.prog 124 #[.pointer (some ⟨r, 0, none⟩), .func (.func 147) #[] #[.pointer (some ⟨p1, 0, none⟩), .pointer (some ⟨p2, 0, none⟩)]] W (fun e w' => Does (fun k => k = r ∨ k = p2) r A ws none (fun _ _ => True) W e w' ∧ ∃ v, Blk w' p2 t2 #[v])) ∧
    (∀ t rest, y = some (t, rest) → ∃ j, j ≤ ws.length ∧ rest = ws.drop j ∧
      Calls Tryz.prog 124 #[.pointer (some ⟨r, 0, none⟩), .func (.func 147) #[] #[.pointer (some ⟨p1, 0, none⟩), .pointer (some ⟨p2, 0, none⟩)]] W
        (Does (fun k => k = r ∨ k = p2) r A ws (some j) (fun x w' => x = .tuple #[] ∧ ∃ v, Blk w' p2 t2 #[v] ∧ rep w' W.heap.size t [v]) W)) := by
  have hent : ∀ (args : Array Value) (w : World), (callFunc 147 args).run Tryz.prog w = .ok (.enter 147 args) w := fun _ _ => by kernel_rfl
  have hl1 := b1.lt
  have hl2 := b2.lt
  have hlr := hr.lt
  have hS : ∀ k, (k = r ∨ k = p2) → k < W.heap.size := fun k hk => by rcases hk with rfl | rfl <;> assumption
  have hI0 : (fun w => ∃ v, Blk w p2 t2 #[v]) W := ⟨_, b2⟩
  have hI : ∀ w1 w2, (fun w => ∃ v, Blk w p2 t2 #[v]) w1 → Fr (· = r) w1 w2 → (fun w => ∃ v, Blk w p2 t2 #[v]) w2 := fun w1 w2 h hf => ⟨_, h.choose_spec.fr hf hpr⟩
  cases h1 : (Bags.hd (ws.drop i)).is 5 [Bags.str "("]
  · rw [if_neg (by simp [h1])] at hy
    obtain ⟨rfl⟩ : none = y := by simpa [Bags.miss] using hy
    refine ⟨fun _ => ?_, fun _ _ h => (by cases h)⟩
    refine (inBrackets_any hC hr hi (by omega) (S := fun k => k = r ∨ k = p2) hS (.inl rfl) hent (o := none) (by simp) (by simp [h1]) (V := fun _ _ => True) (I := fun w => ∃ v, Blk w p2 t2 #[v]) hI0 hI (fun _ _ _ h => by simp [h1] at h)).mono ?_
    rintro e w' ⟨⟨h2, h3⟩, h4⟩
    simp only [h1, Bool.false_eq_true, if_false] at h3
    exact ⟨⟨h2, h3⟩, h4⟩
  · rw [if_pos h1] at hy
    have hi1 := lt_of_is h1 (by decide)
    rcases Bags.andThen_some hy with ⟨hp, rfl⟩ | ⟨q, rest, hp, hy2⟩
    · refine ⟨fun _ => ?_, fun _ _ h => (by cases h)⟩
      refine (inBrackets_any hC hr hi (by omega) (S := fun k => k = r ∨ k = p2) hS (.inl rfl) hent (o := none) (by simp) (fun _ => by omega) (V := fun _ _ => True) (I := fun w => ∃ v, Blk w p2 t2 #[v]) hI0 hI (fun W' hf hr' _ => by simpa using fille_no hC hz hM hn (b1.fr hf hpr1) (b2.fr hf hpr) hpr hr' (by omega) (fun _ _ => True) hp)).mono ?_
      rintro e w' ⟨⟨h2, h3⟩, h4⟩
      simp only [h1, if_true, Option.bind_none] at h3
      exact ⟨⟨h2, h3⟩, h4⟩
    · obtain ⟨j, q1, q2, rfl⟩ := drop_of hp (by omega)
      cases h2 : (Bags.hd (ws.drop j)).is 5 [Bags.str ")"]
      · rw [if_neg (by simp [h2])] at hy2
        obtain ⟨rfl⟩ : none = y := by simpa [Bags.miss] using hy2
        refine ⟨fun _ => ?_, fun _ _ h => (by cases h)⟩
        refine (inBrackets_any hC hr hi (by omega) (S := fun k => k = r ∨ k = p2) hS (.inl rfl) hent (o := some j) (by simpa using q2) (fun _ => by omega) (V := fun x w' => True) (I := fun w => ∃ v, Blk w p2 t2 #[v]) hI0 hI (fun W' hf hr' _ => by
          simpa using (fille_yes hC hz hM hn (b1.fr hf hpr1) (b2.fr hf hpr) hpr hpA hr' (by omega) q2 hp).mono fun e w' h => ⟨⟨h.1, ⟨h.2.1.choose, h.2.1.choose_spec.1, trivial⟩, h.2.2⟩, by obtain ⟨_, ⟨_, _, _, v, hv, _⟩, _⟩ := h; exact ⟨v, hv⟩⟩)).mono ?_
        rintro e w' ⟨⟨h3, h4⟩, h5⟩
        simp only [h1, if_true, Option.bind_some, h2, Bool.false_eq_true, if_false] at h4
        exact ⟨⟨h3, h4⟩, h5⟩
      · rw [if_pos h2, List.tail_drop] at hy2
        obtain ⟨rfl⟩ : some (_, _) = y := by simpa [Bags.ok] using hy2
        have hj2 := lt_of_is h2 (by decide)
        refine ⟨fun h => (by cases h), fun t rest h => ?_⟩
        cases h
        refine ⟨j + 1, by omega, rfl, ?_⟩
        refine (inBrackets_any hC hr hi (by omega) (S := fun k => k = r ∨ k = p2) hS (.inl rfl) hent (o := some j) (by simpa using q2) (fun _ => by omega) (V := fun x w' => x = .tuple #[] ∧ ∃ v, Blk w' p2 t2 #[v] ∧ rep w' W.heap.size q [v]) (I := fun w => ∃ v, Blk w p2 t2 #[v]) hI0 hI (fun W' hf hr' _ => by
          simpa using (fille_yes hC hz hM hn (b1.fr hf hpr1) (b2.fr hf hpr) hpr hpA hr' (by omega) q2 hp).mono fun e w' h => by
            obtain ⟨g1, ⟨x, g2, g3, v, g4, g5⟩, g6⟩ := h
            exact ⟨⟨g1, ⟨x, g2, g3, v, g4, g5.fr (Fr.refl (fun _ => False) _) (fun _ h => h.elim) hf.size⟩, g6⟩, v, g4⟩)).mono ?_
        rintro e w' ⟨⟨h3, h4⟩, _⟩
        simp only [h1, if_true, Option.bind_some, h2] at h4
        obtain ⟨⟨x, g1, g2, z, w1, ⟨g3, v, g4, g5⟩, g6⟩, g7⟩ := h4
        exact ⟨h3, ⟨x, g1, g2, v, g4.fr g6 hpr, g5.fr g6 (fun k h => h ▸ hlr) (Nat.le_refl _)⟩, g7⟩
end Go.Proofs.YtoephflcjllaaaaGreatDoor
