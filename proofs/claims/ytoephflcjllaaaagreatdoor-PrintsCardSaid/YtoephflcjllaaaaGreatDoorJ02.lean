/- What the reference's cutter finds, by places: a plain text. -/
import Derived.Test.YtoephflcjllaaaaGreatDoorJ01
namespace Bags
/-! ### Stretches of words -/
def seg (ws : List W) (i j : Nat) : List W := (ws.drop i).take (j - i)
def wd (ws : List W) (i : Nat) : W := hd (ws.drop i)
/-- The stretch from i to j is that. -/
def Der (ws : List W) (k : K) (i j : Nat) (t : T) : Prop := j ≤ ws.length ∧ G k (seg ws i j) t
def Has (ws : List W) (k : K) (i j : Nat) : Prop := ∃ t, Der ws k i j t

section
variable {ws : List W} {i j p : Nat}
theorem seg_length (h : j ≤ ws.length) : (seg ws i j).length = j - i := by unfold seg; simp; omega
theorem seg_nil (h : j ≤ i) : seg ws i j = [] := by unfold seg; rw [show j - i = 0 by omega]; rfl
theorem wd_get (h : i < ws.length) : wd ws i = ws[i] := by unfold wd hd; rw [List.drop_eq_getElem_cons h]; rfl
theorem wd_out (h : ws.length ≤ i) : wd ws i = endW := by unfold wd; rw [List.drop_of_length_le h]; rfl
theorem seg_cons (h : i < j) (hj : j ≤ ws.length) : seg ws i j = wd ws i :: seg ws (i + 1) j := by
  rw [wd_get (by omega)]
  unfold seg
  rw [List.drop_eq_getElem_cons (by omega : i < ws.length), show j - i = (j - (i + 1)) + 1 by omega, List.take_succ_cons]
theorem seg_append (h1 : i ≤ p) (h2 : p ≤ j) : seg ws i j = seg ws i p ++ seg ws p j := by
  unfold seg
  rw [show j - i = (p - i) + (j - p) by omega, List.take_add, List.drop_drop, show i + (p - i) = p by omega]
theorem seg_inv {a b : List W} (hi : i ≤ j) (hj : j ≤ ws.length) (h : seg ws i j = a ++ b) : i + a.length ≤ j ∧ a = seg ws i (i + a.length) ∧ b = seg ws (i + a.length) j := by
  have hl := seg_length (i := i) hj
  rw [h, List.length_append] at hl
  have h1 : i + a.length ≤ j := by omega
  rw [seg_append (ws := ws) (p := i + a.length) (by omega) h1] at h
  have h2 : (seg ws i (i + a.length)).length = a.length := by rw [seg_length (by omega)]; omega
  obtain ⟨e1, e2⟩ := List.append_inj h h2
  exact ⟨h1, e1.symm, e2.symm⟩
theorem seg_one (h : i < ws.length) : seg ws i (i + 1) = [wd ws i] := by rw [seg_cons (by omega) (by omega), seg_nil (by omega)]
theorem seg_snoc (h : i < j) (hj : j ≤ ws.length) : seg ws i j = seg ws i (j - 1) ++ [wd ws (j - 1)] := by
  rw [seg_append (p := j - 1) (by omega) (by omega)]
  congr 1
  rw [seg_cons (by omega) hj, seg_nil (by omega)]
theorem Der.lt {k : K} {t : T} (h : Der ws k i j t) : i < j := by
  rcases Nat.lt_or_ge i j with h' | h'
  · exact h'
  · exact absurd (seg_nil h') (G.ne h.2)
theorem Has.lt {k : K} (h : Has ws k i j) : i < j := h.elim fun _ h => h.lt
theorem Has.le {k : K} (h : Has ws k i j) : j ≤ ws.length := h.elim fun _ h => h.1
theorem Der.hd {k : K} {t : T} (h : Der ws k i j t) : Bags.hd (seg ws i j) = wd ws i := by
  rw [seg_cons h.lt h.1]; rfl

/-- A stretch that is cut in three: a piece, a word, a piece. -/
theorem seg_mid {a b : List W} {x : W} (hi : i ≤ j) (hj : j ≤ ws.length) (h : seg ws i j = a ++ x :: b) :
    i + a.length < j ∧ a = seg ws i (i + a.length) ∧ x = wd ws (i + a.length) ∧ b = seg ws (i + a.length + 1) j := by
  obtain ⟨h1, h2, h3⟩ := seg_inv hi hj h
  have hlt : i + a.length < j := by
    rcases Nat.lt_or_ge (i + a.length) j with h' | h'
    · exact h'
    · rw [seg_nil h'] at h3; cases h3
  rw [seg_cons hlt hj] at h3
  injection h3 with h3 h4
  exact ⟨hlt, h2, h3, h4⟩
theorem mid_seg (h1 : i ≤ p) (h2 : p < j) (hj : j ≤ ws.length) : seg ws i j = seg ws i p ++ wd ws p :: seg ws (p + 1) j := by
  rw [seg_append h1 (by omega : p ≤ j), seg_cons h2 hj]
theorem ne_len {k : K} {w : List W} {t : T} (h : G k w t) : 0 < w.length := List.length_pos_iff.2 h.ne

/-! ### More on first words -/
theorem core_first {k : K} {w : List W} {t : T} (h : G k w t) (hk : k = .core) : (Bags.hd w).is 5 [str "("] = true ∨ (Bags.hd w).is 1 [str "select"] = true := by
  subst hk
  cases h with
  | c1 h _ _ => exact .inl h
  | c2 h _ _ _ => exact .inr h
  | c3 h _ _ _ _ => exact .inr h
  | c4 h _ _ _ => exact .inr h
  | c5 h _ _ _ _ => exact .inr h
theorem core_not {w : List W} {t : T} (h : G .core w t) {s : Nat} {ts : List Str} (hd : (s ≠ 5 ∨ str "(" ∉ ts) ∧ (s ≠ 1 ∨ str "select" ∉ ts)) : (Bags.hd w).is s ts = false := by
  rcases core_first h rfl with h | h
  · exact is_not h (hd.1.imp (fun h e => h e.symm) (fun h t ht => by simp at ht; subst ht; exact h))
  · exact is_not h (hd.2.imp (fun h e => h e.symm) (fun h t ht => by simp at ht; subst ht; exact h))
theorem basic_not {w : List W} {t : T} (h : G .basic w t) : (Bags.hd w).is 1 [str "not"] = false := by
  have fe : ∀ {w' v : List W} {t : T}, G .expr w' t → (Bags.hd (w' ++ v)).is 1 [str "not"] = false := fun h => by
    rw [hd_append (G.ne h)]
    exact First.no (G.first h) (.inr ⟨rfl, by decide⟩)
  cases h with
  | b1 h _ _ _ => exact is_not h (.inr (by decide))
  | b2 h _ _ => exact is_not h (.inl (by decide))
  | b3 h _ _ => exact fe h
  | b4 h _ _ _ => exact fe h
  | b5 h _ _ _ _ => exact fe h
  | b6 h _ _ _ _ _ => exact fe h
  | b7 h _ _ _ _ _ => exact fe h
  | b8 h _ _ => exact fe h
theorem expr_not {k : K} {w : List W} {t : T} (h : G k w t) (hk : k = .expr ∨ k = .items ∨ k = .factor) {s : Nat} {ts : List Str} (hd : s = 5 ∧ (∀ t ∈ [str "-", str "("], t ∉ ts) ∨ s = 1 ∧ ∀ t ∈ str "null" :: fns, t ∉ ts) : (Bags.hd w).is s ts = false := by
  have := G.first h
  rcases hk with rfl | rfl | rfl <;> exact First.no this hd
theorem tail_form {k : K} {w : List W} {t : T} (h : G k w t) : (k = .tail → ∃ f wh g h, t = .sel false .none f wh g h) ∧ (k = .after → ∃ wh g h, t = .sel false .none .none wh g h) ∧ (k = .grouped → ∃ g h, t = .sel false .none .none .none g h) := by
  cases h <;> refine ⟨?_, ?_, ?_⟩ <;> intro hk <;> cases hk <;> first | exact ⟨_, _, _, _, rfl⟩ | exact ⟨_, _, _, rfl⟩ | exact ⟨_, _, rfl⟩

/-! ### What each kind is, by places -/
variable {a b t : T}
theorem Der.q1 (h : Der ws .core i j t) : Der ws .query i j t := ⟨h.1, .q1 h.2⟩
theorem Der.q2 (hk : (wd ws p).is 1 setOps = true) (ha : Der ws .query i p a) (hb : Der ws .core (p + 1) j b) : Der ws .query i j (.comb (wd ws p).text false a b) :=
  ⟨hb.1, by rw [mid_seg (Nat.le_of_lt ha.lt) (by have := hb.lt; omega) hb.1]; exact .q2 ha.2 hk hb.2⟩
theorem Der.q3 (hk : (wd ws p).is 1 setOps = true) (hl : (wd ws (p + 1)).is 1 [str "all"] = true) (ha : Der ws .query i p a) (hb : Der ws .core (p + 2) j b) : Der ws .query i j (.comb (wd ws p).text true a b) :=
  ⟨hb.1, by rw [mid_seg (Nat.le_of_lt ha.lt) (by have := hb.lt; omega) hb.1, seg_cons (by have := hb.lt; omega) hb.1]; exact .q3 ha.2 hk hl hb.2⟩
theorem Has.query (h : Has ws .query i j) : Has ws .core i j ∨ ∃ p, i < p ∧ p < j ∧ (wd ws p).is 1 setOps = true ∧ Has ws .query i p ∧
    (((wd ws (p + 1)).is 1 [str "all"] = true ∧ Has ws .core (p + 2) j) ∨ ((wd ws (p + 1)).is 1 [str "all"] = false ∧ Has ws .core (p + 1) j)) := by
  obtain ⟨t, hj, h⟩ := h
  have hlt := Der.lt ⟨hj, h⟩
  generalize hw : seg ws i j = w at h
  cases h with
  | q1 h => exact .inl ⟨_, hj, hw ▸ h⟩
  | @q2 w v a b k h1 h2 h3 =>
    obtain ⟨e1, e2, e3, e4⟩ := seg_mid (Nat.le_of_lt hlt) hj hw
    have := ne_len h1
    subst e3
    rw [e4] at h3
    refine .inr ⟨i + w.length, by omega, e1, h2, ⟨a, by omega, e2 ▸ h1⟩, .inr ⟨?_, b, hj, h3⟩⟩
    have := core_not h3 (s := 1) (ts := [str "all"]) (by decide)
    rwa [Der.hd ⟨hj, h3⟩] at this
  | @q3 w v a b k l h1 h2 hl h3 =>
    obtain ⟨e1, e2, e3, e4⟩ := seg_mid (Nat.le_of_lt hlt) hj hw
    have := ne_len h1
    subst e3
    have hlt2 : i + w.length + 1 < j := by
      rcases Nat.lt_or_ge (i + w.length + 1) j with h' | h'
      · exact h'
      · rw [seg_nil h'] at e4; cases e4
    rw [seg_cons hlt2 hj] at e4
    injection e4 with e4 e5
    subst e4
    exact .inr ⟨i + w.length, by omega, e1, h2, ⟨a, by omega, e2 ▸ h1⟩, .inl ⟨hl, b, hj, e5 ▸ h3⟩⟩

theorem Der.round {k k' : K} (hg : ∀ {o c : W} {w : List W} {t : T}, o.is 5 [str "("] = true → G k w t → c.is 5 [str ")"] = true → G k' (o :: (w ++ [c])) t) (ho : (wd ws i).is 5 [str "("] = true) (hc : (wd ws (j - 1)).is 5 [str ")"] = true) (h : Der ws k (i + 1) (j - 1) t) (hj : j ≤ ws.length) : Der ws k' i j t := by
  have := h.lt
  refine ⟨hj, ?_⟩
  rw [seg_cons (by omega) hj, seg_snoc (by omega) hj]
  exact hg ho h.2 hc
/-- What stands in brackets. -/
def Rnd (ws : List W) (k : K) (i j : Nat) (t : T) : Prop := (wd ws i).is 5 [str "("] = true ∧ (wd ws (j - 1)).is 5 [str ")"] = true ∧ j ≤ ws.length ∧ Der ws k (i + 1) (j - 1) t
theorem Rnd.lt {k : K} (h : Rnd ws k i j t) : i + 2 < j := by have := h.2.2.2.lt; omega
theorem Rnd.of {k : K} {o c : W} {w : List W} (_ : i ≤ j) (hj : j ≤ ws.length) (h : seg ws i j = o :: (w ++ [c])) (ho : o.is 5 [str "("] = true) (hg : G k w t) (hc : c.is 5 [str ")"] = true) : Rnd ws k i j t := by
  have hlt : i < j := by
    rcases Nat.lt_or_ge i j with h' | h'
    · exact h'
    · rw [seg_nil h'] at h; cases h
  rw [seg_cons hlt hj] at h
  injection h with h1 h2
  have hl := congrArg List.length h2
  rw [seg_length hj, List.length_append] at hl
  have hw := ne_len hg
  simp at hl
  rw [seg_snoc (by omega) hj] at h2
  obtain ⟨e1, e2⟩ := List.append_inj' h2 rfl
  injection e2 with e2
  exact ⟨h1 ▸ ho, e2 ▸ hc, hj, by omega, e1 ▸ hg⟩
theorem Rnd.seg {k : K} (h : Rnd ws k i j t) : ∃ w, seg ws i j = wd ws i :: (w ++ [wd ws (j - 1)]) ∧ G k w t := by
  have := h.lt
  exact ⟨_, by rw [seg_cons (by omega) h.2.2.1, seg_snoc (by omega) h.2.2.1], h.2.2.2.2⟩

theorem Der.c1 (h : Rnd ws .query i j t) : Der ws .core i j t := ⟨h.2.2.1, by obtain ⟨w, e, hg⟩ := h.seg; rw [e]; exact .c1 h.1 hg h.2.1⟩
/-- Where the items of a selection begin. -/
def fromOf (ws : List W) (i : Nat) : Nat := if (wd ws (i + 1)).is 1 [str "distinct"] then i + 2 else i + 1
theorem Der.c2 {it f wh g h : T} (hs : (wd ws i).is 1 [str "select"] = true) (hfr : (wd ws p).is 1 [str "from"] = true) (ha : Der ws .items (fromOf ws i) p it) (hb : Der ws .tail (p + 1) j (.sel false .none f wh g h)) :
    Der ws .core i j (.sel ((wd ws (i + 1)).is 1 [str "distinct"]) it f wh g h) := by
  have h1 := ha.lt
  have h2 := hb.lt
  refine ⟨hb.1, ?_⟩
  unfold fromOf at *
  split at ha
  · rename_i hd
    rw [if_pos hd] at h1
    rw [hd, seg_cons (by omega) hb.1, seg_cons (by omega) hb.1, mid_seg (p := p) (by omega) (by omega) hb.1]
    exact .c3 hs hd ha.2 hfr hb.2
  · rename_i hd
    rw [if_neg hd] at h1
    rw [Bool.eq_false_iff.2 hd, seg_cons (by omega) hb.1, mid_seg (p := p) (by omega) (by omega) hb.1]
    exact .c2 hs ha.2 hfr hb.2
theorem Der.c4 {f wh g h : T} (hs : (wd ws i).is 1 [str "select"] = true) (hst : (wd ws (fromOf ws i)).is 5 [str "*"] = true) (hfr : (wd ws (fromOf ws i + 1)).is 1 [str "from"] = true) (hb : Der ws .tail (fromOf ws i + 2) j (.sel false .none f wh g h)) :
    Der ws .core i j (.sel ((wd ws (i + 1)).is 1 [str "distinct"]) .none f wh g h) := by
  have h2 := hb.lt
  refine ⟨hb.1, ?_⟩
  unfold fromOf at *
  by_cases hd : (wd ws (i + 1)).is 1 [str "distinct"] = true
  · rw [if_pos hd] at h2 hst hfr hb
    rw [hd, seg_cons (by omega) hb.1, seg_cons (by omega) hb.1, seg_cons (by omega) hb.1, seg_cons (by omega) hb.1]
    exact .c5 hs hd hst hfr hb.2
  · rw [if_neg hd] at h2 hst hfr hb
    rw [Bool.eq_false_iff.2 hd, seg_cons (by omega) hb.1, seg_cons (by omega) hb.1, seg_cons (by omega) hb.1]
    exact .c4 hs hst hfr hb.2
theorem Has.core_round (h : Has ws .core i j) (hs : (wd ws i).is 1 [str "select"] = false) : ∃ t, Rnd ws .query i j t := by
  obtain ⟨t, hj, h⟩ := h
  have hlt := Der.lt ⟨hj, h⟩
  have hh := Der.hd ⟨hj, h⟩
  generalize hw : Bags.seg ws i j = w at h hh
  cases h with
  | c1 h1 h2 h3 => exact ⟨_, Rnd.of (Nat.le_of_lt hlt) hj hw h1 h2 h3⟩
  | c2 h _ _ _ => rw [← hh] at hs; exact absurd (show _ = true from h) (by simpa [Bags.hd] using hs)
  | c3 h _ _ _ _ => rw [← hh] at hs; exact absurd (show _ = true from h) (by simpa [Bags.hd] using hs)
  | c4 h _ _ _ => rw [← hh] at hs; exact absurd (show _ = true from h) (by simpa [Bags.hd] using hs)
  | c5 h _ _ _ _ => rw [← hh] at hs; exact absurd (show _ = true from h) (by simpa [Bags.hd] using hs)
theorem Has.core_sel (h : Has ws .core i j) (hs : (wd ws i).is 1 [str "select"] = true) : ∃ p, fromOf ws i < p ∧ p < j ∧ (wd ws p).is 1 [str "from"] = true ∧ Has ws .tail (p + 1) j ∧
    ((p = fromOf ws i + 1 ∧ (wd ws (fromOf ws i)).is 5 [str "*"] = true) ∨ Has ws .items (fromOf ws i) p) := by
  obtain ⟨t, hj, h⟩ := h
  have hlt := Der.lt ⟨hj, h⟩
  have hh := Der.hd ⟨hj, h⟩
  generalize hw : Bags.seg ws i j = w at h hh
  cases h with
  | c1 h1 h2 h3 => rw [← hh] at hs; exact absurd (show _ = true from hs) (by simpa [Bags.hd] using is_not h1 (.inl (by decide)))
  | @c2 w v s fr it f wh g h h1 h2 h3 h4 =>
    rw [seg_cons hlt hj] at hw
    injection hw with hw1 hw
    obtain ⟨e1, e2, e3, e4⟩ := seg_mid (by omega) hj hw
    have hn := ne_len h2
    have hd : (wd ws (i + 1)).is 1 [str "distinct"] = false := by
      have := expr_not h2 (.inr (.inl rfl)) (s := 1) (ts := [str "distinct"]) (.inr ⟨rfl, by decide⟩)
      rw [e2, Der.hd ⟨by omega, e2 ▸ h2⟩] at this
      exact this
    have hf : fromOf ws i = i + 1 := by unfold fromOf; rw [hd]; rfl
    rw [hf]
    exact ⟨i + 1 + w.length, by omega, e1, e3 ▸ h3, ⟨_, hj, e4 ▸ h4⟩, .inr ⟨_, by omega, e2 ▸ h2⟩⟩
  | @c3 w v s d fr it f wh g h h1 hd h2 h3 h4 =>
    have hl := congrArg List.length hw
    rw [seg_length hj] at hl
    simp at hl
    rw [seg_cons hlt hj, seg_cons (by omega) hj] at hw
    injection hw with hw1 hw
    injection hw with hw2 hw
    obtain ⟨e1, e2, e3, e4⟩ := seg_mid (by omega) hj hw
    have hn := ne_len h2
    have hf : fromOf ws i = i + 2 := by unfold fromOf; rw [hw2, hd]; rfl
    rw [hf]
    exact ⟨i + 2 + w.length, by omega, e1, e3 ▸ h3, ⟨_, hj, e4 ▸ h4⟩, .inr ⟨_, by omega, e2 ▸ h2⟩⟩
  | @c4 v s st fr f wh g h h1 h2 h3 h4 =>
    have hl := congrArg List.length hw
    rw [seg_length hj] at hl
    simp at hl
    rw [seg_cons hlt hj, seg_cons (by omega) hj, seg_cons (by omega) hj] at hw
    injection hw with hw1 hw
    injection hw with hw2 hw
    injection hw with hw3 hw
    have hd : (wd ws (i + 1)).is 1 [str "distinct"] = false := by rw [hw2]; exact is_not h2 (.inl (by decide))
    have hf : fromOf ws i = i + 1 := by unfold fromOf; rw [hd]; rfl
    rw [hf]
    exact ⟨i + 2, by omega, by omega, hw3 ▸ h3, ⟨_, hj, hw ▸ h4⟩, .inl ⟨rfl, hw2 ▸ h2⟩⟩
  | @c5 v s d st fr f wh g h h1 hd h2 h3 h4 =>
    have hl := congrArg List.length hw
    rw [seg_length hj] at hl
    simp at hl
    rw [seg_cons hlt hj, seg_cons (by omega) hj, seg_cons (by omega) hj, seg_cons (by omega) hj] at hw
    injection hw with hw1 hw
    injection hw with hw2 hw
    injection hw with hw3 hw
    injection hw with hw4 hw
    have hf : fromOf ws i = i + 2 := by unfold fromOf; rw [hw2, hd]; rfl
    rw [hf]
    exact ⟨i + 3, by omega, by omega, hw4 ▸ h3, ⟨_, hj, hw ▸ h4⟩, .inl ⟨rfl, hw3 ▸ h2⟩⟩

/-! ### Tails -/
theorem Der.t1 {f : T} (h : Der ws .sources i j f) : Der ws .tail i j (.sel false .none f .none .none .none) := ⟨h.1, .t1 h.2⟩
theorem Der.t2 {f wh g h : T} (hk : (wd ws p).is 1 [str "where"] = true) (ha : Der ws .sources i p f) (hb : Der ws .after (p + 1) j (.sel false .none .none wh g h)) : Der ws .tail i j (.sel false .none f wh g h) :=
  ⟨hb.1, by rw [mid_seg (Nat.le_of_lt ha.lt) (by have := hb.lt; omega) hb.1]; exact .t2 ha.2 hk hb.2⟩
theorem Der.t3 {f g h : T} (hk : (wd ws p).is 1 [str "group"] = true) (hl : (wd ws (p + 1)).is 1 [str "by"] = true) (ha : Der ws .sources i p f) (hb : Der ws .grouped (p + 2) j (.sel false .none .none .none g h)) : Der ws .tail i j (.sel false .none f .none g h) :=
  ⟨hb.1, by rw [mid_seg (Nat.le_of_lt ha.lt) (by have := hb.lt; omega) hb.1, seg_cons (by have := hb.lt; omega) hb.1]; exact .t3 ha.2 hk hl hb.2⟩
theorem Der.a1 {c : T} (h : Der ws .cond i j c) : Der ws .after i j (.sel false .none .none c .none .none) := ⟨h.1, .a1 h.2⟩
theorem Der.a2 {c g h : T} (hk : (wd ws p).is 1 [str "group"] = true) (hl : (wd ws (p + 1)).is 1 [str "by"] = true) (ha : Der ws .cond i p c) (hb : Der ws .grouped (p + 2) j (.sel false .none .none .none g h)) : Der ws .after i j (.sel false .none .none c g h) :=
  ⟨hb.1, by rw [mid_seg (Nat.le_of_lt ha.lt) (by have := hb.lt; omega) hb.1, seg_cons (by have := hb.lt; omega) hb.1]; exact .a2 ha.2 hk hl hb.2⟩
theorem Der.g1 {g : T} (h : Der ws .cols i j g) : Der ws .grouped i j (.sel false .none .none .none g .none) := ⟨h.1, .g1 h.2⟩
theorem Der.g2 {g h : T} (hk : (wd ws p).is 1 [str "having"] = true) (ha : Der ws .cols i p g) (hb : Der ws .cond (p + 1) j h) : Der ws .grouped i j (.sel false .none .none .none g h) :=
  ⟨hb.1, by rw [mid_seg (Nat.le_of_lt ha.lt) (by have := hb.lt; omega) hb.1]; exact .g2 ha.2 hk hb.2⟩
theorem tail_two {k : K} {w v : List W} {l x : W} (hi : i ≤ j) (hj : j ≤ ws.length) (hw : seg ws i j = w ++ x :: l :: v) (hg : G k w a) :
    ∃ p, i < p ∧ p + 1 < j ∧ x = wd ws p ∧ l = wd ws (p + 1) ∧ Has ws k i p ∧ v = seg ws (p + 2) j := by
  obtain ⟨e1, e2, e3, e4⟩ := seg_mid hi hj hw
  have hn := ne_len hg
  have hlt2 : i + w.length + 1 < j := by
    rcases Nat.lt_or_ge (i + w.length + 1) j with h' | h'
    · exact h'
    · rw [seg_nil h'] at e4; cases e4
  rw [seg_cons hlt2 hj] at e4
  injection e4 with e4 e5
  exact ⟨i + w.length, by omega, hlt2, e3, e4, ⟨_, by omega, e2 ▸ hg⟩, e5⟩
theorem tail_mid {k : K} {w v : List W} {x : W} (hi : i ≤ j) (hj : j ≤ ws.length) (hw : seg ws i j = w ++ x :: v) (hg : G k w a) :
    ∃ p, i < p ∧ p < j ∧ x = wd ws p ∧ Has ws k i p ∧ v = seg ws (p + 1) j := by
  obtain ⟨e1, e2, e3, e4⟩ := seg_mid hi hj hw
  have hn := ne_len hg
  exact ⟨i + w.length, by omega, e1, e3, ⟨_, by omega, e2 ▸ hg⟩, e4⟩
theorem Has.tail (h : Has ws .tail i j) : Has ws .sources i j ∨ ∃ p, i < p ∧ p < j ∧ Has ws .sources i p ∧ (((wd ws p).is 1 [str "where"] = true ∧ Has ws .after (p + 1) j) ∨ ((wd ws p).is 1 [str "group"] = true ∧ (wd ws (p + 1)).is 1 [str "by"] = true ∧ Has ws .grouped (p + 2) j)) := by
  obtain ⟨t, hj, h⟩ := h
  have hlt := Der.lt ⟨hj, h⟩
  generalize hw : seg ws i j = w at h
  cases h with
  | t1 h => exact .inl ⟨_, hj, hw ▸ h⟩
  | t2 h1 h2 h3 =>
    obtain ⟨p, e1, e2, e3, e4, e5⟩ := tail_mid (Nat.le_of_lt hlt) hj hw h1
    exact .inr ⟨p, e1, e2, e4, .inl ⟨e3 ▸ h2, _, hj, e5 ▸ h3⟩⟩
  | t3 h1 h2 h3 h4 =>
    obtain ⟨p, e1, e2, e3, e4, e5, e6⟩ := tail_two (Nat.le_of_lt hlt) hj hw h1
    exact .inr ⟨p, e1, by omega, e5, .inr ⟨e3 ▸ h2, e4 ▸ h3, _, hj, e6 ▸ h4⟩⟩
theorem Has.after (h : Has ws .after i j) : Has ws .cond i j ∨ ∃ p, i < p ∧ p < j ∧ Has ws .cond i p ∧ (wd ws p).is 1 [str "group"] = true ∧ (wd ws (p + 1)).is 1 [str "by"] = true ∧ Has ws .grouped (p + 2) j := by
  obtain ⟨t, hj, h⟩ := h
  have hlt := Der.lt ⟨hj, h⟩
  generalize hw : seg ws i j = w at h
  cases h with
  | a1 h => exact .inl ⟨_, hj, hw ▸ h⟩
  | a2 h1 h2 h3 h4 =>
    obtain ⟨p, e1, e2, e3, e4, e5, e6⟩ := tail_two (Nat.le_of_lt hlt) hj hw h1
    exact .inr ⟨p, e1, by omega, e5, e3 ▸ h2, e4 ▸ h3, _, hj, e6 ▸ h4⟩
theorem Has.grouped (h : Has ws .grouped i j) : Has ws .cols i j ∨ ∃ p, i < p ∧ p < j ∧ Has ws .cols i p ∧ (wd ws p).is 1 [str "having"] = true ∧ Has ws .cond (p + 1) j := by
  obtain ⟨t, hj, h⟩ := h
  have hlt := Der.lt ⟨hj, h⟩
  generalize hw : seg ws i j = w at h
  cases h with
  | g1 h => exact .inl ⟨_, hj, hw ▸ h⟩
  | g2 h1 h2 h3 =>
    obtain ⟨p, e1, e2, e3, e4, e5⟩ := tail_mid (Nat.le_of_lt hlt) hj hw h1
    exact .inr ⟨p, e1, e2, e4, e3 ▸ h2, _, hj, e5 ▸ h3⟩

/-! ### Rows with commas; chains -/
/-- How a row's kind goes with its parts'. -/
def rowK : K → Option K
  | .items => some .item
  | .sources => some .source
  | .cols => some .col
  | _ => none
theorem Der.row1 {k k' : K} (hk : rowK k = some k') (h : Der ws k' i j t) : Der ws k i j (.cons t .none) := by
  refine ⟨h.1, ?_⟩
  cases k <;> simp only [rowK, reduceCtorEq, Option.some.injEq] at hk <;> subst hk
  · exact .is1 h.2
  · exact .ss1 h.2
  · exact .cs1 h.2
theorem Der.row2 {k k' : K} (hk : rowK k = some k') (hc : (wd ws p).is 5 [str ","] = true) (ha : Der ws k i p a) (hb : Der ws k' (p + 1) j b) : Der ws k i j (a.snoc b) := by
  refine ⟨hb.1, ?_⟩
  rw [mid_seg (Nat.le_of_lt ha.lt) (by have := hb.lt; omega) hb.1]
  cases k <;> simp only [rowK, reduceCtorEq, Option.some.injEq] at hk <;> subst hk
  · exact .is2 ha.2 hc hb.2
  · exact .ss2 ha.2 hc hb.2
  · exact .cs2 ha.2 hc hb.2
theorem Has.row {k k' : K} (hk : rowK k = some k') (h : Has ws k i j) : Has ws k' i j ∨ ∃ p, i < p ∧ p < j ∧ (wd ws p).is 5 [str ","] = true ∧ Has ws k i p ∧ Has ws k' (p + 1) j := by
  obtain ⟨t, hj, h⟩ := h
  have hlt := Der.lt ⟨hj, h⟩
  generalize hw : seg ws i j = w at h
  cases h <;> simp only [rowK, reduceCtorEq, Option.some.injEq] at hk <;> subst hk
  case is1 h | ss1 h | cs1 h => exact .inl ⟨_, hj, hw ▸ h⟩
  case is2 h1 h2 h3 | ss2 h1 h2 h3 | cs2 h1 h2 h3 =>
    obtain ⟨p, e1, e2, e3, e4, e5⟩ := tail_mid (Nat.le_of_lt hlt) hj hw h1
    exact .inr ⟨p, e1, e2, e3 ▸ h2, e4, _, hj, e5 ▸ h3⟩
/-- How a chain's kind goes with its parts', and the words between. -/
def chainK : K → Option (K × Nat × List Str)
  | .cond => some (.conj, 1, [str "or"])
  | .conj => some (.neg, 1, [str "and"])
  | .expr => some (.term, 5, adds)
  | .term => some (.factor, 5, muls)
  | _ => none
/-- What a chain makes of two. -/
def chainT (k : K) (s : Str) (a b : T) : T := match k with
  | .cond | .conj => .junct s a b
  | _ => .bin s a b
theorem Der.chain1 {k k' : K} {n : Nat} {l : List Str} (hk : chainK k = some (k', n, l)) (h : Der ws k' i j t) : Der ws k i j t := by
  refine ⟨h.1, ?_⟩
  cases k <;> simp only [chainK, reduceCtorEq, Option.some.injEq, Prod.mk.injEq] at hk <;> obtain ⟨rfl, rfl, rfl⟩ := hk
  · exact .or1 h.2
  · exact .and1 h.2
  · exact .e1 h.2
  · exact .te1 h.2
theorem Der.chain2 {k k' : K} {n : Nat} {l : List Str} (hk : chainK k = some (k', n, l)) (hc : (wd ws p).is n l = true) (ha : Der ws k i p a) (hb : Der ws k' (p + 1) j b) : Der ws k i j (chainT k (wd ws p).text a b) := by
  refine ⟨hb.1, ?_⟩
  rw [mid_seg (Nat.le_of_lt ha.lt) (by have := hb.lt; omega) hb.1]
  cases k <;> simp only [chainK, reduceCtorEq, Option.some.injEq, Prod.mk.injEq] at hk <;> obtain ⟨rfl, rfl, rfl⟩ := hk
  · exact .or2 ha.2 hc hb.2
  · exact .and2 ha.2 hc hb.2
  · exact .e2 ha.2 hc hb.2
  · exact .te2 ha.2 hc hb.2
theorem Has.chain {k k' : K} {n : Nat} {l : List Str} (hk : chainK k = some (k', n, l)) (h : Has ws k i j) : Has ws k' i j ∨ ∃ p, i < p ∧ p < j ∧ (wd ws p).is n l = true ∧ Has ws k i p ∧ Has ws k' (p + 1) j := by
  obtain ⟨t, hj, h⟩ := h
  have hlt := Der.lt ⟨hj, h⟩
  generalize hw : seg ws i j = w at h
  cases h <;> simp only [chainK, reduceCtorEq, Option.some.injEq, Prod.mk.injEq] at hk <;> obtain ⟨rfl, rfl, rfl⟩ := hk
  case or1 h | and1 h | e1 h | te1 h => exact .inl ⟨_, hj, hw ▸ h⟩
  case or2 h1 h2 h3 | and2 h1 h2 h3 | e2 h1 h2 h3 | te2 h1 h2 h3 =>
    obtain ⟨p, e1, e2, e3, e4, e5⟩ := tail_mid (Nat.le_of_lt hlt) hj hw h1
    exact .inr ⟨p, e1, e2, e3 ▸ h2, e4, _, hj, e5 ▸ h3⟩

/-! ### Names -/
theorem Der.i1 (h : Der ws .expr i j t) : Der ws .item i j (.item t []) := ⟨h.1, .i1 h.2⟩
theorem Der.i2 (hj : j ≤ ws.length) (ha : (wd ws (j - 2)).is 1 [str "as"] = true) (hn : (wd ws (j - 1)).sort = 2) (h : Der ws .expr i (j - 2) t) : Der ws .item i j (.item t (wd ws (j - 1)).text) := by
  have := h.lt
  refine ⟨hj, ?_⟩
  rw [seg_append (p := j - 2) (by omega) (by omega), seg_cons (i := j - 2) (by omega) hj, seg_cons (i := j - 2 + 1) (by omega) hj, seg_nil (i := j - 2 + 1 + 1) (by omega), show j - 2 + 1 = j - 1 by omega]
  exact .i2 h.2 ha hn
theorem Has.item (h : Has ws .item i j) : Has ws .expr i j ∨ (i + 2 < j ∧ (wd ws (j - 2)).is 1 [str "as"] = true ∧ (wd ws (j - 1)).sort = 2 ∧ Has ws .expr i (j - 2)) := by
  obtain ⟨t, hj, h⟩ := h
  have hlt := Der.lt ⟨hj, h⟩
  generalize hw : seg ws i j = w at h
  cases h with
  | i1 h => exact .inl ⟨_, hj, hw ▸ h⟩
  | @i2 w e a n h1 h2 h3 =>
    obtain ⟨p, e1, e2, e3, e4, e5, e6⟩ := tail_two (Nat.le_of_lt hlt) hj hw h1
    have hp : p + 2 = j := by
      have := congrArg List.length e6
      rw [seg_length hj] at this
      simp at this
      omega
    subst hp
    exact .inr ⟨by omega, e3 ▸ h2, by rw [show p + 2 - 1 = p + 1 by omega]; exact e4 ▸ h3, e5⟩
theorem Der.s1 (hi : i < ws.length) (h : (wd ws i).sort = 2) : Der ws .source i (i + 1) (.src (wd ws i).text []) := ⟨by omega, by rw [seg_one hi]; exact .s1 h⟩
theorem seg_three (hj : i + 3 ≤ ws.length) : seg ws i (i + 3) = [wd ws i, wd ws (i + 1), wd ws (i + 2)] := by
  rw [seg_cons (by omega) hj, seg_cons (by omega) hj, seg_cons (by omega) hj, seg_nil (by omega)]
theorem Der.s2 (hj : i + 3 ≤ ws.length) (h1 : (wd ws i).sort = 2) (h2 : (wd ws (i + 1)).is 1 [str "as"] = true) (h3 : (wd ws (i + 2)).sort = 2) : Der ws .source i (i + 3) (.src (wd ws i).text (wd ws (i + 2)).text) :=
  ⟨hj, by rw [seg_three hj]; exact .s2 h1 h2 h3⟩
theorem Der.co1 (hi : i < ws.length) (h : (wd ws i).sort = 2) : Der ws .col i (i + 1) (.col [] (wd ws i).text) := ⟨by omega, by rw [seg_one hi]; exact .co1 h⟩
theorem Der.co2 (hj : i + 3 ≤ ws.length) (h1 : (wd ws i).sort = 2) (h2 : (wd ws (i + 1)).is 5 [str "."] = true) (h3 : (wd ws (i + 2)).sort = 2) : Der ws .col i (i + 3) (.col (wd ws i).text (wd ws (i + 2)).text) :=
  ⟨hj, by rw [seg_three hj]; exact .co2 h1 h2 h3⟩
theorem seg_is1 {x : W} (hi : i ≤ j) (hj : j ≤ ws.length) (h : seg ws i j = [x]) : j = i + 1 ∧ x = wd ws i := by
  have hl := congrArg List.length h
  rw [seg_length hj] at hl
  simp at hl
  rw [seg_cons (by omega) hj] at h
  injection h with h
  exact ⟨by omega, h.symm⟩
theorem seg_is3 {x y z : W} (hi : i ≤ j) (hj : j ≤ ws.length) (h : seg ws i j = [x, y, z]) : j = i + 3 ∧ x = wd ws i ∧ y = wd ws (i + 1) ∧ z = wd ws (i + 2) := by
  have hl := congrArg List.length h
  rw [seg_length hj] at hl
  simp at hl
  obtain rfl : j = i + 3 := by omega
  rw [seg_three hj] at h
  injection h with h1 h
  injection h with h2 h
  injection h with h3 h
  exact ⟨rfl, h1.symm, h2.symm, h3.symm⟩
theorem Has.source (h : Has ws .source i j) : (wd ws i).sort = 2 ∧ (j = i + 1 ∨ (j = i + 3 ∧ (wd ws (i + 1)).is 1 [str "as"] = true ∧ (wd ws (i + 2)).sort = 2)) := by
  obtain ⟨t, hj, h⟩ := h
  have hlt := Der.lt ⟨hj, h⟩
  generalize hw : seg ws i j = w at h
  cases h with
  | s1 h => obtain ⟨e1, e2⟩ := seg_is1 (Nat.le_of_lt hlt) hj hw; exact ⟨e2 ▸ h, .inl e1⟩
  | s2 h1 h2 h3 => obtain ⟨e1, e2, e3, e4⟩ := seg_is3 (Nat.le_of_lt hlt) hj hw; exact ⟨e2 ▸ h1, .inr ⟨e1, e3 ▸ h2, e4 ▸ h3⟩⟩
theorem Has.col (h : Has ws .col i j) : (wd ws i).sort = 2 ∧ (j = i + 1 ∨ (j = i + 3 ∧ (wd ws (i + 1)).is 5 [str "."] = true ∧ (wd ws (i + 2)).sort = 2)) := by
  obtain ⟨t, hj, h⟩ := h
  have hlt := Der.lt ⟨hj, h⟩
  generalize hw : seg ws i j = w at h
  cases h with
  | co1 h => obtain ⟨e1, e2⟩ := seg_is1 (Nat.le_of_lt hlt) hj hw; exact ⟨e2 ▸ h, .inl e1⟩
  | co2 h1 h2 h3 => obtain ⟨e1, e2, e3, e4⟩ := seg_is3 (Nat.le_of_lt hlt) hj hw; exact ⟨e2 ▸ h1, .inr ⟨e1, e3 ▸ h2, e4 ▸ h3⟩⟩
theorem Der.n1 (h : Der ws .basic i j t) : Der ws .neg i j t := ⟨h.1, .n1 h.2⟩
theorem Der.n2 (hk : (wd ws i).is 1 [str "not"] = true) (h : Der ws .neg (i + 1) j t) : Der ws .neg i j (.not t) := ⟨h.1, by rw [seg_cons (by have := h.lt; omega) h.1]; exact .n2 hk h.2⟩
theorem Has.neg (h : Has ws .neg i j) : ((wd ws i).is 1 [str "not"] = true ∧ Has ws .neg (i + 1) j) ∨ ((wd ws i).is 1 [str "not"] = false ∧ Has ws .basic i j) := by
  obtain ⟨t, hj, h⟩ := h
  have hlt := Der.lt ⟨hj, h⟩
  generalize hw : seg ws i j = w at h
  cases h with
  | n1 h =>
    refine .inr ⟨?_, _, hj, hw ▸ h⟩
    have := basic_not h
    rwa [← hw, Der.hd ⟨hj, hw ▸ h⟩] at this
  | n2 h1 h2 =>
    rw [seg_cons hlt hj] at hw
    injection hw with e1 e2
    exact .inl ⟨e1 ▸ h1, _, hj, e2 ▸ h2⟩

/-! ### Conditions -/
theorem Der.b1 (hk : (wd ws i).is 1 [str "exists"] = true) (h : Rnd ws .query (i + 1) j t) : Der ws .basic i j (.exist t) := by
  have := h.lt
  obtain ⟨w, e, hg⟩ := h.seg
  exact ⟨h.2.2.1, by rw [seg_cons (by omega) h.2.2.1, e]; exact .b1 hk h.1 hg h.2.1⟩
theorem Der.b2 (h : Rnd ws .cond i j t) : Der ws .basic i j t := ⟨h.2.2.1, by obtain ⟨w, e, hg⟩ := h.seg; rw [e]; exact .b2 h.1 hg h.2.1⟩
theorem Der.b3 (ha : Der ws .expr i p a) (h1 : (wd ws p).is 1 [str "is"] = true) (h2 : (wd ws (p + 1)).is 1 [str "null"] = true) (hj : p + 2 ≤ ws.length) : Der ws .basic i (p + 2) (.isnull a false) := by
  have := ha.lt
  exact ⟨hj, by rw [mid_seg (p := p) (by omega) (by omega) hj, seg_one (i := p + 1) (by omega)]; exact .b3 ha.2 h1 h2⟩
theorem Der.b4 (ha : Der ws .expr i p a) (h1 : (wd ws p).is 1 [str "is"] = true) (h2 : (wd ws (p + 1)).is 1 [str "not"] = true) (h3 : (wd ws (p + 2)).is 1 [str "null"] = true) (hj : p + 3 ≤ ws.length) : Der ws .basic i (p + 3) (.isnull a true) := by
  have := ha.lt
  exact ⟨hj, by rw [mid_seg (p := p) (by omega) (by omega) hj, seg_cons (i := p + 1) (by omega) hj, seg_one (i := p + 1 + 1) (by omega)]; exact .b4 ha.2 h1 h2 h3⟩
theorem Der.b5 {q : T} (ha : Der ws .expr i p a) (h1 : (wd ws p).is 1 [str "in"] = true) (h : Rnd ws .query (p + 1) j q) : Der ws .basic i j (.isin a false q) := by
  have := ha.lt
  have := h.lt
  obtain ⟨w, e, hg⟩ := h.seg
  exact ⟨h.2.2.1, by rw [mid_seg (p := p) (by omega) (by omega) h.2.2.1, e]; exact .b5 ha.2 h1 h.1 hg h.2.1⟩
theorem Der.b6 {q : T} (ha : Der ws .expr i p a) (h0 : (wd ws p).is 1 [str "not"] = true) (h1 : (wd ws (p + 1)).is 1 [str "in"] = true) (h : Rnd ws .query (p + 2) j q) : Der ws .basic i j (.isin a true q) := by
  have := ha.lt
  have := h.lt
  obtain ⟨w, e, hg⟩ := h.seg
  exact ⟨h.2.2.1, by rw [mid_seg (p := p) (by omega) (by omega) h.2.2.1, seg_cons (i := p + 1) (by omega) h.2.2.1, e]; exact .b6 ha.2 h0 h1 h.1 hg h.2.1⟩
theorem Der.b7 {q : T} (ha : Der ws .expr i p a) (h0 : (wd ws p).is 5 cmps = true) (h1 : (wd ws (p + 1)).is 1 [str "any", str "all"] = true) (h : Rnd ws .query (p + 2) j q) : Der ws .basic i j (.quant (wd ws p).text (wd ws (p + 1)).text a q) := by
  have := ha.lt
  have := h.lt
  obtain ⟨w, e, hg⟩ := h.seg
  exact ⟨h.2.2.1, by rw [mid_seg (p := p) (by omega) (by omega) h.2.2.1, seg_cons (i := p + 1) (by omega) h.2.2.1, e]; exact .b7 ha.2 h0 h1 h.1 hg h.2.1⟩
theorem Der.b8 (ha : Der ws .expr i p a) (h0 : (wd ws p).is 5 cmps = true) (hb : Der ws .expr (p + 1) j b) : Der ws .basic i j (.cmp (wd ws p).text a b) :=
  ⟨hb.1, by rw [mid_seg (Nat.le_of_lt ha.lt) (by have := hb.lt; omega) hb.1]; exact .b8 ha.2 h0 hb.2⟩
/-- Where what stands behind a 'not' at p begins. -/
def notAt (ws : List W) (p : Nat) : Nat := if (wd ws p).is 1 [str "not"] then p + 1 else p
/-- What may stand about an expression that ends at p. -/
def About (ws : List W) (p j : Nat) : Prop :=
  if (wd ws p).is 1 [str "is"] = true then (wd ws (notAt ws (p + 1))).is 1 [str "null"] = true ∧ j = notAt ws (p + 1) + 1
  else if (wd ws (notAt ws p)).is 1 [str "in"] = true then ∃ t, Rnd ws .query (notAt ws p + 1) j t
  else (wd ws p).is 5 cmps = true ∧ if (wd ws (p + 1)).is 1 [str "any", str "all"] = true then ∃ t, Rnd ws .query (p + 2) j t else Has ws .expr (p + 1) j
theorem notAt_not {ws : List W} {p : Nat} (h : (wd ws p).is 1 [str "not"] = true) : notAt ws p = p + 1 := if_pos h
theorem notAt_no {ws : List W} {p : Nat} (h : (wd ws p).is 1 [str "not"] = false) : notAt ws p = p := if_neg (by rw [h]; decide)
theorem no {b : Bool} (h : b = false) : ¬ b = true := by rw [h]; decide
theorem rnd_of {k : K} {o c : W} {v : List W} {q : Nat} (hj : j ≤ ws.length) (hv : o :: (v ++ [c]) = seg ws q j) (ho : o.is 5 [str "("] = true) (hg : G k v t) (hc : c.is 5 [str ")"] = true) : Rnd ws k q j t := by
  refine Rnd.of ?_ hj hv.symm ho hg hc
  rcases Nat.lt_or_ge q j with h | h
  · exact Nat.le_of_lt h
  · rw [seg_nil h] at hv; cases hv
theorem Has.basic (h : Has ws .basic i j) : ((wd ws i).is 1 [str "exists"] = true ∧ ∃ t, Rnd ws .query (i + 1) j t) ∨
    ((wd ws i).is 1 [str "exists"] = false ∧ ((∃ t, Rnd ws .cond i j t) ∨ ∃ p, i < p ∧ p < j ∧ Has ws .expr i p ∧ About ws p j)) := by
  obtain ⟨t, hj, h⟩ := h
  have hlt := Der.lt ⟨hj, h⟩
  have hle := Nat.le_of_lt hlt
  have hh := Der.hd ⟨hj, h⟩
  generalize hw : Bags.seg ws i j = w at h hh
  have fe : ∀ {p : Nat}, Has ws .expr i p → (wd ws i).is 1 [str "exists"] = false := fun ⟨t, h⟩ => by
    have := expr_not h.2 (.inl rfl) (s := 1) (ts := [str "exists"]) (.inr ⟨rfl, by decide⟩)
    rwa [Der.hd h] at this
  cases h with
  | b1 h1 h2 h3 h4 =>
    rw [seg_cons hlt hj] at hw
    injection hw with e1 e2
    exact .inl ⟨e1 ▸ h1, _, rnd_of hj e2.symm h2 h3 h4⟩
  | b2 h1 h2 h3 =>
    have e1 : wd ws i = _ := hh.symm
    simp only [Bags.hd, List.headD_cons] at e1
    exact .inr ⟨by rw [e1]; exact is_not h1 (.inl (by decide)), .inl ⟨_, rnd_of hj hw.symm h1 h2 h3⟩⟩
  | b3 h1 h2 h3 =>
    obtain ⟨p, e1, e2, e3, e4, e5, e6⟩ := tail_two hle hj hw h1
    refine .inr ⟨fe e5, .inr ⟨p, e1, by omega, e5, ?_⟩⟩
    have hl := congrArg List.length e6
    rw [seg_length hj] at hl
    simp at hl
    unfold About
    rw [← e3, if_pos h2, notAt_no (by rw [← e4]; exact is_not h3 (.inr (by decide))), ← e4]
    exact ⟨h3, by omega⟩
  | b4 h1 h2 h3 h4 =>
    obtain ⟨p, e1, e2, e3, e4, e5, e6⟩ := tail_two hle hj hw h1
    refine .inr ⟨fe e5, .inr ⟨p, e1, by omega, e5, ?_⟩⟩
    have hlt2 : p + 2 < j := by
      rcases Nat.lt_or_ge (p + 2) j with h' | h'
      · exact h'
      · rw [seg_nil h'] at e6; cases e6
    rw [seg_cons hlt2 hj] at e6
    injection e6 with e6 e7
    have hl := congrArg List.length e7
    rw [seg_length hj] at hl
    simp at hl
    unfold About
    rw [← e3, if_pos h2, notAt_not (by rw [← e4]; exact h3), ← e6]
    exact ⟨h4, by omega⟩
  | b5 h1 h2 h3 h4 h5 =>
    obtain ⟨p, e1, e2, e3, e4, e5⟩ := tail_mid hle hj hw h1
    refine .inr ⟨fe e4, .inr ⟨p, e1, by omega, e4, ?_⟩⟩
    unfold About
    rw [notAt_no (p := p) (by rw [← e3]; exact is_not h2 (.inr (by decide))), ← e3, if_neg (no (is_not h2 (.inr (by decide)))), if_pos h2]
    exact ⟨_, rnd_of hj e5 h3 h4 h5⟩
  | b6 h1 h2 h3 h4 h5 h6 =>
    obtain ⟨p, e1, e2, e3, e4, e5, e6⟩ := tail_two hle hj hw h1
    refine .inr ⟨fe e5, .inr ⟨p, e1, by omega, e5, ?_⟩⟩
    unfold About
    rw [notAt_not (p := p) (by rw [← e3]; exact h2), ← e3, ← e4, if_neg (no (is_not h2 (.inr (by decide)))), if_pos h3]
    exact ⟨_, rnd_of hj e6 h4 h5 h6⟩
  | b7 h1 h2 h3 h4 h5 h6 =>
    obtain ⟨p, e1, e2, e3, e4, e5, e6⟩ := tail_two hle hj hw h1
    refine .inr ⟨fe e5, .inr ⟨p, e1, by omega, e5, ?_⟩⟩
    unfold About
    rw [notAt_no (p := p) (by rw [← e3]; exact is_not h2 (.inl (by decide))), ← e3, ← e4, if_neg (no (is_not h2 (.inl (by decide)))), if_neg (no (is_not h2 (.inl (by decide)))), if_pos h3]
    exact ⟨h2, _, rnd_of hj e6 h4 h5 h6⟩
  | b8 h1 h2 h3 =>
    obtain ⟨p, e1, e2, e3, e4, e5⟩ := tail_mid hle hj hw h1
    refine .inr ⟨fe e4, .inr ⟨p, e1, by omega, e4, ?_⟩⟩
    have hb : Der ws .expr (p + 1) j _ := ⟨hj, e5 ▸ h3⟩
    have hn := expr_not h3 (.inl rfl) (s := 1) (ts := [str "any", str "all"]) (.inr ⟨rfl, by decide⟩)
    rw [e5, Der.hd hb] at hn
    unfold About
    rw [notAt_no (p := p) (by rw [← e3]; exact is_not h2 (.inl (by decide))), ← e3, if_neg (no (is_not h2 (.inl (by decide)))), if_neg (no (is_not h2 (.inl (by decide)))), if_neg (no hn)]
    exact ⟨h2, _, hb⟩

/-! ### Factors -/
theorem Der.f1 (hk : (wd ws i).is 5 [str "-"] = true) (h : Der ws .factor (i + 1) j t) : Der ws .factor i j (.neg t) := ⟨h.1, by rw [seg_cons (by have := h.lt; omega) h.1]; exact .f1 hk h.2⟩
theorem Der.f2 (hi : i < ws.length) (h : (wd ws i).sort = 3) : Der ws .factor i (i + 1) (.num (wd ws i).num) := ⟨by omega, by rw [seg_one hi]; exact .f2 h⟩
theorem Der.f3 (hi : i < ws.length) (h : (wd ws i).sort = 4) : Der ws .factor i (i + 1) (.text (wd ws i).text) := ⟨by omega, by rw [seg_one hi]; exact .f3 h⟩
theorem Der.f4 (hi : i < ws.length) (h : (wd ws i).is 1 [str "null"] = true) : Der ws .factor i (i + 1) .null := ⟨by omega, by rw [seg_one hi]; exact .f4 h⟩
theorem seg_four (hj : i + 4 ≤ ws.length) : seg ws i (i + 4) = [wd ws i, wd ws (i + 1), wd ws (i + 2), wd ws (i + 3)] := by
  rw [seg_cons (by omega) hj, seg_cons (by omega) hj, seg_cons (by omega) hj, seg_cons (by omega) hj, seg_nil (by omega)]
theorem Der.f5 (hj : i + 4 ≤ ws.length) (h : (wd ws i).is 1 [str "count"] = true) (h1 : (wd ws (i + 1)).is 5 [str "("] = true) (h2 : (wd ws (i + 2)).is 5 [str "*"] = true) (h3 : (wd ws (i + 3)).is 5 [str ")"] = true) :
    Der ws .factor i (i + 4) (.agg (wd ws i).text .none) := ⟨hj, by rw [seg_four hj]; exact .f5 h h1 h2 h3⟩
theorem Der.f6 (hk : (wd ws i).is 1 fns = true) (h : Rnd ws .expr (i + 1) j t) : Der ws .factor i j (.agg (wd ws i).text t) := by
  have := h.lt
  obtain ⟨w, e, hg⟩ := h.seg
  exact ⟨h.2.2.1, by rw [seg_cons (by omega) h.2.2.1, e]; exact .f6 hk h.1 hg h.2.1⟩
theorem Der.f7 (h : Rnd ws .expr i j t) : Der ws .factor i j t := ⟨h.2.2.1, by obtain ⟨w, e, hg⟩ := h.seg; rw [e]; exact .f7 h.1 hg h.2.1⟩
theorem Der.f8 (h : Der ws .col i j t) : Der ws .factor i j t := ⟨h.1, .f8 h.2⟩
/-- count of rows. -/
def Star (ws : List W) (i j : Nat) : Prop := (wd ws i).is 1 [str "count"] = true ∧ j = i + 4 ∧ (wd ws (i + 1)).is 5 [str "("] = true ∧ (wd ws (i + 2)).is 5 [str "*"] = true ∧ (wd ws (i + 3)).is 5 [str ")"] = true
theorem Has.factor (h : Has ws .factor i j) : if (wd ws i).is 5 [str "-"] = true then Has ws .factor (i + 1) j else
    (j = i + 1 ∧ ((wd ws i).sort = 3 ∨ (wd ws i).sort = 4 ∨ (wd ws i).is 1 [str "null"] = true)) ∨
    (if (wd ws i).is 1 fns = true then Star ws i j ∨ ∃ t, Rnd ws .expr (i + 1) j t else (∃ t, Rnd ws .expr i j t) ∨ Has ws .col i j) := by
  obtain ⟨t, hj, h⟩ := h
  have hlt := Der.lt ⟨hj, h⟩
  have hle := Nat.le_of_lt hlt
  have hh := Der.hd ⟨hj, h⟩
  generalize hw : Bags.seg ws i j = w at h hh
  cases h with
  | f1 h1 h2 =>
    rw [seg_cons hlt hj] at hw
    injection hw with e1 e2
    rw [if_pos (e1 ▸ h1)]
    exact ⟨_, hj, e2 ▸ h2⟩
  | f2 h => obtain ⟨e1, e2⟩ := seg_is1 hle hj hw; rw [← e2, if_neg (no (sort_not h (by decide)))]; exact .inl ⟨e1, .inl h⟩
  | f3 h => obtain ⟨e1, e2⟩ := seg_is1 hle hj hw; rw [← e2, if_neg (no (sort_not h (by decide)))]; exact .inl ⟨e1, .inr (.inl h)⟩
  | f4 h => obtain ⟨e1, e2⟩ := seg_is1 hle hj hw; rw [← e2, if_neg (no (is_not h (.inl (by decide))))]; exact .inl ⟨e1, .inr (.inr h)⟩
  | f5 h1 h2 h3 h4 =>
    have hl := congrArg List.length hw
    rw [seg_length hj] at hl
    simp at hl
    obtain rfl : j = i + 4 := by omega
    rw [seg_four hj] at hw
    injection hw with e1 hw
    injection hw with e2 hw
    injection hw with e3 hw
    injection hw with e4 hw
    rw [e1, if_neg (no (is_not h1 (.inl (by decide)))), if_pos (is_sub h1 (by decide))]
    exact .inr (.inl ⟨by rw [e1]; exact h1, rfl, by rw [e2]; exact h2, by rw [e3]; exact h3, by rw [e4]; exact h4⟩)
  | f6 h1 h2 h3 h4 =>
    rw [seg_cons hlt hj] at hw
    injection hw with e1 e2
    rw [e1, if_neg (no (is_not h1 (.inl (by decide)))), if_pos h1]
    exact .inr (.inr ⟨_, rnd_of hj e2.symm h2 h3 h4⟩)
  | f7 h1 h2 h3 =>
    have e1 : wd ws i = _ := hh.symm
    simp only [Bags.hd, List.headD_cons] at e1
    rw [e1, if_neg (no (is_not h1 (.inr (by decide)))), if_neg (no (is_not h1 (.inl (by decide))))]
    exact .inr (.inl ⟨_, rnd_of hj hw.symm h1 h2 h3⟩)
  | f8 h =>
    have hc : Has ws .col i j := ⟨_, hj, hw ▸ h⟩
    have hs := hc.col.1
    rw [if_neg (no (sort_not hs (by decide))), if_neg (no (sort_not hs (by decide)))]
    exact .inr (.inr hc)
end
end Bags
