/- Walks of the reference's cutter: new trees; chains. -/
import Derived.Test.YtoephflcjllaaaaGreatDoorJ32
import Derived.Outline
namespace Go.Proofs.YtoephflcjllaaaaGreatDoor
open Go.RowKit

theorem rk_le (k : Nat) : rk k ≤ 5 := by
  by_cases h : k < 18
  · have : ∀ k : Fin 18, rk k.val ≤ 5 := by decide
    exact this ⟨k, h⟩
  · unfold rk; rw [List.getD_eq_getElem?_getD, List.getElem?_eq_none (by simp; omega)]; simp
theorem rank_lt {k i j k' i' j' : Nat} (h' : j' - i' < j - i) : rank k' i' j' < rank k i j := by
  have := rk_le k'
  unfold rank
  omega
theorem rank_same {k i j k' : Nat} (h : rk k' < rk k) : rank k' i j < rank k i j := by unfold rank; omega

/-! ### New trees -/
theorem kids1 {w' : World} {B g : Nat} {x : Nat} (hB : B ≤ g) (h : Blk w' g 30 #[ptr x]) : kidsV w' B (.slice (some ⟨g, 0, none⟩) 1 1) [x] :=
  ⟨by simp, .inr ⟨g, 1, _, rfl, hB, h, Nat.le_refl _, by unfold maxLen; decide, by simp, by simp⟩⟩
theorem kids2 {w' : World} {B g : Nat} {x y : Nat} (hB : B ≤ g) (h : Blk w' g 30 #[ptr x, ptr y]) : kidsV w' B (.slice (some ⟨g, 0, none⟩) 2 2) [x, y] :=
  ⟨by simp, .inr ⟨g, 2, _, rfl, hB, h, Nat.le_refl _, by unfold maxLen; decide, by simp, by simp⟩⟩
theorem kids0 {w : World} {B : Nat} : kidsV w B (.slice none 0 0) [] := ⟨by simp, .inl ⟨rfl, rfl⟩⟩
section
variable {c : Ctx} {w w1 : World} {k : Bags.K} {i j : Nat} {t : Bags.T} {kd sg txt of_ as_ : Bags.Str} {nm : Int} {st nt al : Bool} {cs : Array Value}
theorem IsRes.leaf (hc : CS c w1) (hf : Fr (· = c.M) w w1) (hcs : cs = treeC kd sg txt of_ as_ nm st nt al false (.slice none 0 0) (.slice none 0 0) (.slice none 0 0) (.slice none 0 0) (.pointer none) (.pointer none))
    (ht : ∀ w2, NodeT w2 c.B kd sg txt of_ as_ nm st nt al [] [w1.heap.size] → Fr (· = c.M) w1 w2 → treeK w2 c.B k t w1.heap.size) (hd : Bags.Der c.ws k i j t) :
    IsRes c k i j w (.returned (.pointer (some ⟨w1.heap.size, 0, none⟩))) (w1.alloc (.cells cs 64)) := by
  subst hcs
  have h1 : Below w1.heap.size w1 (w1.alloc (.cells (treeC kd sg txt of_ as_ nm st nt al false (.slice none 0 0) (.slice none 0 0) (.slice none 0 0) (.slice none 0 0) (.pointer none) (.pointer none)) 64)) := (Below.refl _ _).alloc (Nat.le_refl _) _
  exact ⟨hc.below h1, hf.trans (Fr.of_below (S := (· = c.M)) h1) (fun _ _ h => h), .inr ⟨_, t, rfl, hc.size, ht _ ⟨_, _, rfl, hc.size, kids0, Blk.made _ _ _⟩ (Fr.of_below h1), hd⟩⟩
theorem IsRes.one {x : Nat} (hc : CS c w1) (hf : Fr (· = c.M) w w1) (hcs : cs = treeC kd sg txt of_ as_ nm st nt al false (.slice (some ⟨w1.heap.size, 0, none⟩) 1 1) (.slice none 0 0) (.slice none 0 0) (.slice none 0 0) (.pointer none) (.pointer none))
    (ht : ∀ w2, NodeT w2 c.B kd sg txt of_ as_ nm st nt al [x] [w1.heap.size + 1] → Fr (· = c.M) w1 w2 → treeK w2 c.B k t (w1.heap.size + 1)) (hd : Bags.Der c.ws k i j t) :
    IsRes c k i j w (.returned (.pointer (some ⟨w1.heap.size + 1, 0, none⟩))) ((w1.alloc (.cells #[.pointer (some ⟨x, 0, none⟩)] 30)).alloc (.cells cs 64)) := by
  subst hcs
  have hz : (w1.alloc (.cells #[.pointer (some ⟨x, 0, none⟩)] 30)).heap.size = w1.heap.size + 1 := by simp
  have h1 : Below w1.heap.size w1 ((w1.alloc (.cells #[.pointer (some ⟨x, 0, none⟩)] 30)).alloc (.cells (treeC kd sg txt of_ as_ nm st nt al false (.slice (some ⟨w1.heap.size, 0, none⟩) 1 1) (.slice none 0 0) (.slice none 0 0) (.slice none 0 0) (.pointer none) (.pointer none)) 64)) :=
    ((Below.refl _ _).alloc (Nat.le_refl _) _).alloc (by omega) _
  have hB : c.B ≤ w1.heap.size + 1 := Nat.le_succ_of_le hc.size
  exact ⟨hc.below h1, hf.trans (Fr.of_below (S := (· = c.M)) h1) (fun _ _ h => h), .inr ⟨_, t, rfl, hB, ht _ ⟨_, _, rfl, hB, kids1 hc.size ((Blk.made w1 30 #[.pointer (some ⟨x, 0, none⟩)]).alloc _), Blk.made' hz _ _⟩ (Fr.of_below h1), hd⟩⟩
theorem IsRes.two {x y : Nat} (hc : CS c w1) (hf : Fr (· = c.M) w w1) (hcs : cs = treeC kd sg txt of_ as_ nm st nt al false (.slice (some ⟨w1.heap.size, 0, none⟩) 2 2) (.slice none 0 0) (.slice none 0 0) (.slice none 0 0) (.pointer none) (.pointer none))
    (ht : ∀ w2, NodeT w2 c.B kd sg txt of_ as_ nm st nt al [x, y] [w1.heap.size + 1] → Fr (· = c.M) w1 w2 → treeK w2 c.B k t (w1.heap.size + 1)) (hd : Bags.Der c.ws k i j t) :
    IsRes c k i j w (.returned (.pointer (some ⟨w1.heap.size + 1, 0, none⟩))) ((w1.alloc (.cells #[.pointer (some ⟨x, 0, none⟩), .pointer (some ⟨y, 0, none⟩)] 30)).alloc (.cells cs 64)) := by
  subst hcs
  have hz : (w1.alloc (.cells #[.pointer (some ⟨x, 0, none⟩), .pointer (some ⟨y, 0, none⟩)] 30)).heap.size = w1.heap.size + 1 := by simp
  have h1 : Below w1.heap.size w1 ((w1.alloc (.cells #[.pointer (some ⟨x, 0, none⟩), .pointer (some ⟨y, 0, none⟩)] 30)).alloc (.cells (treeC kd sg txt of_ as_ nm st nt al false (.slice (some ⟨w1.heap.size, 0, none⟩) 2 2) (.slice none 0 0) (.slice none 0 0) (.slice none 0 0) (.pointer none) (.pointer none)) 64)) :=
    ((Below.refl _ _).alloc (Nat.le_refl _) _).alloc (by omega) _
  have hB : c.B ≤ w1.heap.size + 1 := Nat.le_succ_of_le hc.size
  exact ⟨hc.below h1, hf.trans (Fr.of_below (S := (· = c.M)) h1) (fun _ _ h => h), .inr ⟨_, t, rfl, hB, ht _ ⟨_, _, rfl, hB, kids2 hc.size ((Blk.made w1 30 #[.pointer (some ⟨x, 0, none⟩), .pointer (some ⟨y, 0, none⟩)]).alloc _), Blk.made' hz _ _⟩ (Fr.of_below h1), hd⟩⟩
end

/-! ### Chains -/
theorem chain_tree {k : Bags.K} {y : Bags.K × Nat × List Bags.Str} (h : Bags.chainK k = some y) (w : World) (B : Nat) (t : Bags.T) (b : Nat) : treeK w B k t b ↔ tr w B t [b] := by
  cases k <;> first | (simp [Bags.chainK] at h; done) | exact Iff.rfl
theorem chain_part {k k' : Bags.K} {n : Nat} {l : List Bags.Str} (h : Bags.chainK k = some (k', n, l)) {w : World} {B : Nat} {t : Bags.T} {b : Nat} (ht : treeK w B k' t b) : tr w B t [b] := by
  cases k <;> simp [Bags.chainK] at h <;> obtain ⟨rfl, _⟩ := h <;> exact ht
theorem chain_two {k : Bags.K} {y : Bags.K × Nat × List Bags.Str} (_ : Bags.chainK k = some y) (w : World) (B : Nat) (s : Bags.Str) (a b : Bags.T) (l : List Nat) :
    (∃ x z, tr w B a [x] ∧ tr w B b [z] ∧ NodeT w B s [] [] [] [] 0 false false false [x, z] l) → tr w B (Bags.chainT k s a b) l := by
  intro h
  cases k <;> exact h
/-- What a chain's loop has found. -/
def Found (c : Ctx) (k : Bags.K) (i j : Nat) (no : Prop) (v : Value) (w : World) : Prop :=
  (v = .pointer none ∧ no) ∨ ∃ b t, v = .pointer (some ⟨b, 0, none⟩) ∧ c.B ≤ b ∧ treeK w c.B k t b ∧ Bags.Der c.ws k i j t
theorem Found.fr {c : Ctx} {k : Bags.K} {i j : Nat} {no : Prop} {v : Value} {w w' : World} (h : Found c k i j no v w) (hf : Fr (· = c.M) w w') (hM : c.M < c.B) : Found c k i j no v w' :=
  h.imp id fun ⟨b, t, h1, h2, h3, h4⟩ => ⟨b, t, h1, h2, h3.fr hf hM, h4⟩
theorem Found.imp {c : Ctx} {k : Bags.K} {i j : Nat} {no no' : Prop} {v : Value} {w : World} (h : Found c k i j no v w) (hn : no → no') : Found c k i j no' v w := Or.imp (fun h => ⟨h.1, hn h.2⟩) id h
theorem Found.shape {c : Ctx} {k : Bags.K} {i j : Nat} {no : Prop} {v : Value} {w : World} (h : Found c k i j no v w) : ∃ q, v = .pointer q := by
  rcases h with ⟨h, _⟩ | ⟨b, t, h, _⟩ <;> exact ⟨_, h⟩

theorem IsRes.found {c : Ctx} {k : Bags.K} {i j : Nat} {w w' : World} {v : Value} (h : IsRes c k i j w (.returned v) w') {no : Prop} (hn : ¬ Bags.Has c.ws k i j → no) : CS c w' ∧ Fr (· = c.M) w w' ∧ Found c k i j no v w' := by
  obtain ⟨h1, h2, ⟨h3, h4⟩ | ⟨b, t, h3, h4⟩⟩ := h
  · injection h3 with h3; exact ⟨h1, h2, .inl ⟨h3, hn h4⟩⟩
  · injection h3 with h3; exact ⟨h1, h2, .inr ⟨b, t, h3, h4⟩⟩
theorem is_some {x : Bags.W} {n : Nat} {l : List Bags.Str} (h : x.is n l = true) : ∃ q, ∃ hq : q < l.length, x.is n [l[q]] = true := by
  have h1 := Bags.is_sort h
  obtain ⟨q, hq, h2⟩ := List.getElem_of_mem (Bags.is_text h)
  exact ⟨q, hq, by simp [Bags.W.is, h1, h2]⟩
theorem is_of1 {x : Bags.W} {n : Nat} {l : List Bags.Str} {s : Bags.Str} (h : x.is n [s] = true) (hs : s ∈ l) : x.is n l = true := Bags.is_sub h (fun t ht => by simp at ht; exact ht ▸ hs)
theorem CS.drewN {c : Ctx} {w : World} (h : CS c w) (n : Nat) : CS c (w.drewN n) := h.below ⟨rfl, rfl, rfl, Nat.le_refl _, fun _ _ => rfl⟩
theorem fr_drewN (S : Nat → Prop) (w : World) (n : Nat) : Fr S w (w.drewN n) := ⟨rfl, rfl, rfl, Nat.le_refl _, fun _ _ _ => rfl⟩

set_option maxRecDepth 100000 in
set_option maxHeartbeats 8000000 in
theorem infix_any {c : Ctx} {N : Nat} (hI : IsOK c N) {k k' i j ns : Nat} {l : List Bags.Str} (hk : k < 18) (hk' : k' < 18) (hck : Bags.chainK (kOf k) = some (kOf k', ns, l)) (hrk : rk k' < rk k) (hij : i < j) (hj : j ≤ c.n) (hN : rank k i j ≤ N)
    (sort : ByteArray) (hsort : ∀ n, ((sortB n).toList == sort.toList) = (n == ns)) (w : World) (h : CS c w) (g : Nat) (hg : Blk w g 9 (l.map strV).toArray) (hgM : g ≠ c.M) (hl : l.length ≤ 10) :
    Calls Tryz.prog 91 #[.pointer (some ⟨c.C, 0, none⟩), .int .i64 k, .int .i64 k', .int .i64 i, .int .i64 j, .string sort, .slice (some ⟨g, 0, none⟩) l.length l.length] w (IsRes c (kOf k) i j w) := by
  have hn := h.pos.2
  have HIS := Lib.hid hI
  have HG := Lib.hid hg
  have HSO := Lib.hid hsort
  have HCK := Lib.hid hck
  have h1 := hI k' i j w hk' (Nat.lt_of_lt_of_le (rank_same hrk) hN) (by omega) (by omega) h
  have H1 := Lib.hid h1
  clear hI h1 h hg hsort hck
  go_enter Tryz.func91, Tryz.ntmps91
  go_wp2_with fail
  refine H1.out.mono ?_
  rintro e w1 ⟨hc, hf, hr⟩
  have HC1 := Lib.hid hc
  have HF1 := Lib.hid hf
  have hfd : ∃ v, e = .returned v ∧ Found c (kOf k) i j (¬ Bags.Has c.ws (kOf k') i j) v w1 := by
    rcases hr with ⟨rfl, hno⟩ | ⟨b, t, rfl, hb, ht, hd⟩
    · exact ⟨_, rfl, .inl ⟨rfl, hno⟩⟩
    · exact ⟨_, rfl, .inr ⟨b, t, rfl, hb, (chain_tree HCK.out _ _ _ _).2 (chain_part HCK.out ht), hd.chain1 HCK.out⟩⟩
  obtain ⟨v0, rfl, hfd⟩ := hfd
  obtain ⟨q0, rfl⟩ := hfd.shape
  have HFD := Lib.hid hfd
  clear hc hf hr hfd
  go_wp2_with fail
  go_loopw [15, 16] (fun tv pv wr => ∃ p : Nat, pv = .int .i64 p ∧ i + 1 ≤ p ∧ p ≤ j ∧ CS c wr ∧ Fr (· = c.M) w wr ∧ Found c (kOf k) i j (¬ Bags.Has c.ws (kOf k') i j ∧ ∀ q, i < q → q < p → (Bags.wd c.ws q).is ns l = true → Bags.Has c.ws (kOf k) i q → ¬ Bags.Has c.ws (kOf k') (q + 1) j) tv wr) (fun _ pv _ => j - (intOf pv).toNat)
  case atStart => exact ⟨i + 1, by simp, Nat.le_refl _, hij, HC1.out, HF1.out, HFD.out.imp fun h => ⟨h, fun q h1 h2 => absurd h2 (by omega)⟩⟩
  case round =>
    rename_i wr
    obtain ⟨p, rfl, hp1, hp2, hc, hf, hfd⟩ := hrel
    obtain ⟨qv, rfl⟩ := hfd.shape
    have HC := Lib.hid hc
    have HF := Lib.hid hf
    have HFD2 := Lib.hid hfd
    clear hc hf hfd
    by_cases hlt : p < j
    · have hlt' : (p : Int) < (j : Int) := by omega
      rcases HFD2.out with ⟨hqv, hno, hall⟩ | ⟨b, t, hqv, hb, ht, hd⟩
      · injection hqv with hqv
        subst hqv
        have HNO := Lib.hid (And.intro hno hall)
        clear hno hall
        go_wp2_with fail
        go_loopw [15, 17] (fun tv kv wz => ∃ m : Nat, kv = .int .i64 m ∧ m ≤ l.length ∧ CS c wz ∧ Fr (· = c.M) w wz ∧ Found c (kOf k) i j (∀ q (h : q < m) (h2 : q < l.length), (Bags.wd c.ws p).is ns [l[q]] = true → Bags.Has c.ws (kOf k) i p → ¬ Bags.Has c.ws (kOf k') (p + 1) j) tv wz) (fun _ kv _ => l.length - (intOf kv).toNat)
        case atStart => exact ⟨0, rfl, by omega, HC.out, HF.out, .inl ⟨rfl, fun q h => absurd h (by omega)⟩⟩
        case round =>
          obtain ⟨m, rfl, hm, hcz, hfz, hfdz⟩ := hrel
          obtain ⟨qz, rfl⟩ := hfdz.shape
          have HCZ := Lib.hid hcz
          have HFZ := Lib.hid hfz
          have HFDZ := Lib.hid hfdz
          by_cases hml : m < l.length
          · have hml' : (m : Int) < (l.length : Int) := by omega
            have hm0 : (0 : Int) ≤ (m : Int) := by omega
            have hp0 : (0 : Int) ≤ (p : Int) := by omega
            have hpn : (p : Int) < (c.n : Int) := by omega
            obtain ⟨w0, w1', _⟩ := hcz.word (show p < c.n by omega)
            have d0 := hcz.blk.cell 0
            have hcap := hcz.capn
            unfold maxLen at hcap
            have hgz := HG.out.fr hfz hgM
            have s0 := hgz.cell m
            have hx : (l.map strV).toArray[m]? = some (.string (tx l[m])) := by simp [hml, strV]
            rw [hx] at s0
            simp at d0
            have hi1 := is_cells (Bags.wd c.ws p) ns (tx l[m])
            rw [bs_tx] at hi1
            have e1 := HSO.out (Bags.wd c.ws p).sort
            have HTXT := Lib.hid (fun (h : (Bags.wd c.ws p).is ns [l[m]] = true) => show (Bags.wd c.ws p).text = l[m] by simpa using Bags.is_one h)
            generalize hb1 : ((Bags.wd c.ws p).sort == ns) = B1 at *
            generalize hb2 : ((tx (Bags.wd c.ws p).text).toList == (tx l[m]).toList) = B2 at *
            have HI1 := Lib.hid hi1
            have HSTEP := Lib.hid (fun (h : (Bags.wd c.ws p).is ns [l[m]] = true → Bags.Has c.ws (kOf k) i p → ¬ Bags.Has c.ws (kOf k') (p + 1) j) => show (∀ q (h : q < m) (h2 : q < l.length), (Bags.wd c.ws p).is ns [l[q]] = true → Bags.Has c.ws (kOf k) i p → ¬ Bags.Has c.ws (kOf k') (p + 1) j) → ∀ q (h : q < m + 1) (h2 : q < l.length), (Bags.wd c.ws p).is ns [l[q]] = true → Bags.Has c.ws (kOf k) i p → ¬ Bags.Has c.ws (kOf k') (p + 1) j from fun h0 q h1 h2 => by
              rcases Nat.lt_or_ge q m with h3 | h3
              · exact h0 q h3 h2
              · obtain rfl : q = m := by omega
                exact h)
            clear hcz hfz hfdz hgz hx hi1 hb1
            cases B1
            · clear hb2
              go_wp2_with fail
              go_quiet (fail)
              go_wp2_with fail
              exact ⟨⟨m + 1, by simp, by omega, HCZ.out.drewN _, HFZ.out.trans (fr_drewN _ _ _) (fun _ _ h => h), (HFDZ.out.imp (HSTEP.out (fun h => by rw [HI1.out] at h; cases h))).fr (fr_drewN _ _ _) HCZ.out.lt.2.2.1⟩, by simp [intOf]; omega⟩
            · cases B2
              · go_wp2_with fail
                go_quiet (fail)
                go_wp2_with fail
                exact ⟨⟨m + 1, by simp, by omega, HCZ.out.drewN _, HFZ.out.trans (fr_drewN _ _ _) (fun _ _ h => h), (HFDZ.out.imp (HSTEP.out (fun h => by rw [HI1.out] at h; cases h))).fr (fr_drewN _ _ _) HCZ.out.lt.2.2.1⟩, by simp [intOf]; omega⟩
              · have HIS1 := Lib.hid (fun W => HIS.out k i p W hk (Nat.lt_of_lt_of_le (rank_lt (k := k) (i := i) (j := j) (by omega)) hN) (by omega) (by omega))
                have hIS2 := fun W => HIS.out k' (p + 1) j W hk' (Nat.lt_of_lt_of_le (rank_lt (k := k) (i := i) (j := j) (by omega)) hN) (by omega) (by omega)
                rw [show ((p + 1 : Nat) : Int) = (p : Int) + 1 by omega] at hIS2
                have HIS2 := Lib.hid hIS2
                clear hIS2
                go_wp2_with fail
                go_quiet (fail)
                go_wp2_with fail
                refine (HIS1.out _ (HCZ.out.drewN _)).mono ?_
                rintro e w4 ⟨hc4, hf4, h4⟩
                have HC4 := Lib.hid hc4
                have HF4 := Lib.hid ((fr_drewN (· = c.M) wr nq).trans hf4 (fun _ _ h => h))
                clear hc4 hf4
                rcases h4 with ⟨rfl, hno4⟩ | ⟨ba, ta, rfl, hba, hta, hda⟩
                · go_wp2_with fail
                  refine (HIS2.out _ HC4.out).mono ?_
                  rintro e w5 ⟨hc5, hf5, h5⟩
                  have HF5 := Lib.hid (HF4.out.trans hf5 (fun _ _ h => h))
                  have HC5 := Lib.hid hc5
                  clear hc5 hf5
                  rcases h5 with ⟨rfl, hno5⟩ | ⟨bb, tb, rfl, hbb, htb, hdb⟩
                  all_goals
                    try clear hno5
                    try clear htb hdb
                    go_wp2_with fail
                    exact ⟨⟨m + 1, by simp, by omega, HC5.out, HFZ.out.trans HF5.out (fun _ _ h => h), (HFDZ.out.imp (HSTEP.out (fun _ h => absurd h hno4))).fr HF5.out HCZ.out.lt.2.2.1⟩, by simp [intOf]; omega⟩
                · have HA := Lib.hid (And.intro hta hda)
                  clear hta hda
                  go_wp2_with fail
                  refine (HIS2.out _ HC4.out).mono ?_
                  rintro e w5 ⟨hc5, hf5, h5⟩
                  have HF45 := Lib.hid hf5
                  have HF5 := Lib.hid (HF4.out.trans hf5 (fun _ _ h => h))
                  have HC5 := Lib.hid hc5
                  clear hc5 hf5
                  rcases h5 with ⟨rfl, hno5⟩ | ⟨bb, tb, rfl, hbb, htb, hdb⟩
                  · go_wp2_with fail
                    exact ⟨⟨m + 1, by simp, by omega, HC5.out, HFZ.out.trans HF5.out (fun _ _ h => h), (HFDZ.out.imp (HSTEP.out (fun _ _ => hno5))).fr HF5.out HCZ.out.lt.2.2.1⟩, by simp [intOf]; omega⟩
                  · have hg5 := HG.out.fr (HFZ.out.trans HF5.out (fun _ _ h => h)) hgM
                    have s5 := hg5.cell m
                    have hx : (l.map strV).toArray[m]? = some (.string (tx l[m])) := by simp [hml, strV]
                    rw [hx] at s5
                    have HB5 := Lib.hid (And.intro htb hdb)
                    clear htb hdb hg5 hx
                    go_wp2_with fail
                    have hmt : (Bags.wd c.ws p).is ns [l[m]] = true := by rw [HI1.out]; rfl
                    obtain ⟨r1, r2, r3⟩ := (IsRes.two (k := kOf k) (i := i) (j := j) (t := Bags.chainT (kOf k) (Bags.wd c.ws p).text ta tb) (x := ba) (y := bb) (kd := l[m]) (sg := []) (txt := []) (of_ := []) (as_ := []) (nm := 0) (st := false) (nt := false) (al := false) HC5.out (HFZ.out.trans HF5.out (fun _ _ h => h)) rfl
                      (fun w2 hn2 hf2 => (chain_tree HCK.out _ _ _ _).2 (chain_two HCK.out _ _ _ _ _ _ ⟨ba, bb, (((chain_tree HCK.out _ _ _ _).1 HA.out.1).fr HF45.out HCZ.out.lt.2.2.1).fr hf2 HCZ.out.lt.2.2.1, (chain_part HCK.out HB5.out.1).fr hf2 HCZ.out.lt.2.2.1, by rw [HTXT.out hmt]; exact hn2⟩))
                      (HA.out.2.chain2 HCK.out (is_of1 hmt (List.getElem_mem _)) HB5.out.2)).found (no := ∀ q (h : q < m + 1) (h2 : q < l.length), (Bags.wd c.ws p).is ns [l[q]] = true → Bags.Has c.ws (kOf k) i p → ¬ Bags.Has c.ws (kOf k') (p + 1) j) (fun h => absurd ⟨_, HA.out.2.chain2 HCK.out (is_of1 hmt (List.getElem_mem _)) HB5.out.2⟩ h)
                    exact ⟨⟨m + 1, by simp, by omega, r1, r2, r3⟩, by simp [intOf]; omega⟩
          · have hml' : ¬ (m : Int) < (l.length : Int) := by omega
            clear hcz hfz hfdz
            go_wp2_with fail
            exact ⟨⟨p + 1, by simp, by omega, by omega, HCZ.out, HFZ.out, HFDZ.out.imp fun h => ⟨HNO.out.1, fun q h1 h2 h3 h4 => by
              rcases Nat.lt_or_ge q p with h5 | h5
              · exact HNO.out.2 q h1 h5 h3 h4
              · obtain rfl : q = p := by omega
                obtain ⟨x, hx, hx2⟩ := is_some h3
                exact h x (by omega) hx hx2 h4⟩⟩, by simp [intOf]; omega⟩
      · injection hqv with hqv
        subst hqv
        have HX := Lib.hid (And.intro ht hd)
        clear ht hd
        go_wp2_with fail
        go_ret
        exact ⟨HC.out, HF.out, .inr ⟨b, t, rfl, hb, HX.out.1, HX.out.2⟩⟩
    · have hlt' : ¬ (p : Int) < (j : Int) := by omega
      go_wp2_with fail
      go_ret
      refine ⟨HC.out, HF.out, ?_⟩
      rcases HFD2.out with ⟨hqv, hno, hall⟩ | ⟨b, t, hqv, hb, ht, hd⟩
      · rw [hqv]
        refine .inl ⟨rfl, fun h => ?_⟩
        rcases h.chain HCK.out with h | ⟨q, h1, h2, h3, h4, h5⟩
        · exact hno h
        · exact hall q h1 (by omega) h3 h4 h5
      · rw [hqv]
        exact .inr ⟨b, t, rfl, hb, ht, hd⟩
end Go.Proofs.YtoephflcjllaaaaGreatDoor
