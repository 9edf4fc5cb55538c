/- Walks: the pieces of a line, by the program; the lines, by the reference. -/
import Derived.Test.YtoephflcjllaaaaGreatDoorJ25
namespace Bags
def joinFirst (pre : Str) : List Str → List Str
  | [] => [pre]
  | l :: ls => (pre ++ l) :: ls
theorem linesOf_ne (s : Str) : linesOf s ≠ [] := by
  cases s with
  | nil => simp [linesOf]
  | cons c r => unfold linesOf; split; simp; split <;> simp
theorem joinFirst_nil {l : List Str} (h : l ≠ []) : joinFirst [] l = l := by
  cases l with
  | nil => exact absurd rfl h
  | cons a r => rfl
theorem joinFirst_join (a b : Str) (l : List Str) : joinFirst a (joinFirst b l) = joinFirst (a ++ b) l := by
  cases l <;> simp [joinFirst]
theorem linesOf_line (r : Str) : linesOf (10 :: r) = [] :: linesOf r := by rw [linesOf, if_pos rfl]
theorem linesOf_byte {c : UInt8} (r : Str) (h : c ≠ 10) : linesOf (c :: r) = joinFirst [c] (linesOf r) := by
  rw [linesOf, if_neg h]
  cases hl : linesOf r <;> rfl
theorem linesOf_length (s : Str) : (linesOf s).length ≤ s.length + 1 := by
  induction s with
  | nil => simp [linesOf]
  | cons c r ih =>
    by_cases h : c = 10
    · subst h; rw [linesOf_line]; simp; omega
    · rw [linesOf_byte r h]
      cases hl : linesOf r with
      | nil => simp [joinFirst]
      | cons a l => rw [hl] at ih; simp [joinFirst] at *; omega
theorem linesOf_text : ∀ (s : Str), ∀ l ∈ linesOf s, l.length ≤ s.length := by
  intro s
  induction s with
  | nil => intro l hl; simp [linesOf] at hl; subst hl; simp
  | cons c r ih =>
    intro l hl
    by_cases h : c = 10
    · subst h; rw [linesOf_line] at hl
      rcases List.mem_cons.1 hl with rfl | hl
      · simp
      · have := ih l hl; simp; omega
    · rw [linesOf_byte r h] at hl
      cases hr : linesOf r with
      | nil => exact absurd hr (linesOf_ne r)
      | cons a m =>
        rw [hr] at hl ih
        simp only [joinFirst] at hl
        rcases List.mem_cons.1 hl with rfl | hl
        · have := ih a (by simp); simp; omega
        · have := ih l (by simp [hl]); simp; omega
end Bags
namespace Go.Proofs.YtoephflcjllaaaaGreatDoor
open Go.RowKit

/-! ### What the loop holds of the pieces -/
def PSeen (s : ByteArray) (k : Nat) (acc : List Bags.Str) : Prop := Bags.pieces (bs s) = (Bags.piecesAt (bs s) k).map (acc ++ ·)
theorem PSeen.start (s : ByteArray) : PSeen s 0 [] := by
  unfold PSeen Bags.pieces Bags.piecesAt; simp
theorem PSeen.step {s : ByteArray} {k j : Nat} {w : Option Bags.Str} {acc : List Bags.Str} (h : PSeen s k acc) (hk : k < s.size) (hx : Bags.pieceOne ((bs s).drop k) = some (w, j)) : PSeen s (k + j) (acc ++ w.toList) := by
  unfold PSeen at *
  rw [h, Bags.piecesAt_step (by rw [bs_length]; exact hk) hx, Option.map_map]
  congr 1
  funext l
  simp
theorem PSeen.no {s : ByteArray} {k : Nat} {acc : List Bags.Str} (h : PSeen s k acc) (hk : k < s.size) (hx : Bags.pieceOne ((bs s).drop k) = none) : Bags.pieces (bs s) = none := by
  unfold PSeen at h
  rw [h, Bags.piecesAt_no (by rw [bs_length]; exact hk) hx]; rfl
theorem PSeen.stop {s : ByteArray} {k : Nat} {acc : List Bags.Str} (h : PSeen s k acc) (hk : ¬ k < s.size) : Bags.pieces (bs s) = some acc := by
  unfold PSeen at h
  rw [h, Bags.piecesAt_end (by rw [bs_length]; omega)]; simp
def notB (c : UInt8) : Bool := c != 32 && c != 39
theorem po_blank {s : ByteArray} {k : Nat} (hk : k < s.size) (hc : s[k] = 32) : Bags.pieceOne ((bs s).drop k) = some (none, 1) := by
  rw [drop_cons s k hk]; unfold Bags.pieceOne; dsimp only; rw [if_pos hc]
theorem po_zero {s : ByteArray} {k : Nat} (hk : k < s.size) (hc : s[k] ≠ 32) (h0 : Bags.pieceLen ((bs s).drop k) = 0) : Bags.pieceOne ((bs s).drop k) = none := by
  rw [drop_cons s k hk] at h0 ⊢; unfold Bags.pieceOne; dsimp only; rw [if_neg hc, if_pos h0]
theorem po_ends {s : ByteArray} {k J : Nat} (hk : k < J) (hJ : J ≤ s.size) : Bags.pieceEnds (((bs s).drop k).drop (J - k)) = if h : J < s.size then decide (s[J] = 32) else true := by
  rw [List.drop_drop, show k + (J - k) = J by omega]
  by_cases h : J < s.size
  · rw [dif_pos h, drop_cons s J h]; unfold Bags.pieceEnds; dsimp only; rw [Bool.eq_iff_iff]; simp
  · rw [dif_neg h, drop_nil s J (by omega)]; rfl
theorem po_bad {s : ByteArray} {k J : Nat} (hk : k < s.size) (hc : s[k] ≠ 32) (hl : Bags.pieceLen ((bs s).drop k) = J - k) (hkJ : k < J) (hJ : J < s.size) (hb : s[J] ≠ 32) : Bags.pieceOne ((bs s).drop k) = none := by
  have he := po_ends (s := s) hkJ (Nat.le_of_lt hJ)
  rw [dif_pos hJ, decide_eq_false hb] at he
  rw [drop_cons s k hk] at *
  unfold Bags.pieceOne
  dsimp only
  rw [if_neg hc, hl, if_neg (by omega), he]; rfl
theorem po_ok {s : ByteArray} {k J : Nat} (hk : k < s.size) (hc : s[k] ≠ 32) (hl : Bags.pieceLen ((bs s).drop k) = J - k) (hkJ : k < J) (hJ : J ≤ s.size) (hb : ∀ h : J < s.size, s[J] = 32) :
    Bags.pieceOne ((bs s).drop k) = some (some (bs (s.extract k J)), J - k) := by
  have he := po_ends (s := s) hkJ hJ
  have he : Bags.pieceEnds (((bs s).drop k).drop (J - k)) = true := by
    rw [he]
    by_cases h : J < s.size
    · rw [dif_pos h, hb h]; rfl
    · rw [dif_neg h]
  rw [extract_eq]
  rw [drop_cons s k hk] at *
  unfold Bags.pieceOne
  dsimp only
  rw [if_neg hc, hl, if_neg (by omega), he]; rfl
theorem pl_quo {s : ByteArray} {k : Nat} (hk : k < s.size) (hc : s[k] = 39) {t : Bags.Str} {n : Nat} (hq : Bags.quo ((bs s).drop (k + 1)) = some (t, n)) : Bags.pieceLen ((bs s).drop k) = (k + 1 + n) - k := by
  rw [drop_cons s k hk]; unfold Bags.pieceLen; dsimp only; rw [if_pos hc, hq]; simp only; omega
theorem pl_quo_none {s : ByteArray} {k : Nat} (hk : k < s.size) (hc : s[k] = 39) (hq : Bags.quo ((bs s).drop (k + 1)) = none) : Bags.pieceLen ((bs s).drop k) = 0 := by
  rw [drop_cons s k hk]; unfold Bags.pieceLen; dsimp only; rw [if_pos hc, hq]
theorem pl_span {s : ByteArray} {k : Nat} (hk : k < s.size) (hc : s[k] ≠ 39) : Bags.pieceLen ((bs s).drop k) = spanTo notB s k - k := by
  unfold spanTo
  rw [drop_cons s k hk]; unfold Bags.pieceLen; dsimp only; rw [if_neg hc]
  unfold notB; omega

def strV (s : Bags.Str) : Value := .string (tx s)
theorem elem_strs : Elem Tryz.prog 40 9 1 16 := ⟨Tryz.underlying40, by kernel_rfl, by decide⟩

/-- What pieces answers: the pieces, in a row of the call's own. -/
def PiecesPost (s : ByteArray) (w : World) (e : Ending) (w' : World) : Prop :=
  Below w.heap.size w w' ∧ ((Bags.pieces (bs s) = none ∧ ∃ v, e = .returned (.tuple #[v, .bool false])) ∨ ∃ l v, Bags.pieces (bs s) = some l ∧ e = .returned (.tuple #[v, .bool true]) ∧ w'.ownsRow w.heap.size 9 1 v l.length (l.map strV))

theorem quo_fit {s : ByteArray} {k : Nat} {t : Bags.Str} {n : Nat} (hk : k < s.size) (hq : Bags.quo ((bs s).drop (k + 1)) = some (t, n)) : 1 ≤ n ∧ k + 1 + n ≤ s.size := by
  have := Bags.quo_len hq
  rw [List.length_drop, bs_length] at this
  omega

set_option maxRecDepth 100000 in
set_option maxHeartbeats 2000000 in
theorem pieces_prog (s : ByteArray) (w : World) (hs : s.size ≤ 4000) :
    Calls Tryz.prog 28 #[.string s] w (PiecesPost s w) := by
  go_enter Tryz.func28, Tryz.ntmps28
  go_wp2_with fail
  go_loopw [4, 5] (fun o v wr => ∃ k acc, k ≤ s.size ∧ v = .int .i64 (k : Nat) ∧ PSeen s k acc ∧ wr.ownsRow w.heap.size 9 1 o acc.length (acc.map strV) ∧ acc.length ≤ k ∧ Below w.heap.size w wr) (fun _ v _ => s.size - (intOf v).toNat)
  case atStart => exact ⟨0, [], by omega, rfl, PSeen.start s, ⟨by simp, .inl ⟨rfl, rfl⟩⟩, by simp, Below.refl _ _⟩
  case round =>
    rename_i wr
    obtain ⟨k, acc, hk, rfl, hq, hown, hacc, hbl⟩ := hrel
    have HQ := Lib.hid hq
    have HB := Lib.hid hbl
    have hbs := hbl.size
    clear hq hbl
    by_cases hlt : k < s.size
    · have hlt' : (k : Int) < (s.size : Int) := by omega
      by_cases h32 : s[k] = 32
      · have t1 := tst_t s[k] (n := 32) 32 rfl h32
        have HX := Lib.hid (HQ.out.step hlt (po_blank hlt h32))
        clear h32
        go_wp2_with fail
        exact ⟨⟨k + 1, acc, by omega, by simp, by simpa using HX.out, hown, by omega, HB.out⟩, by simp [intOf]; omega⟩
      · have t1 := tst_f s[k] (n := 32) 32 rfl h32
        have HS := Lib.hid (fun W => span_any 46 #[] notB s k W (by unfold maxLen; omega) (by omega) Tryz.call46 (fun c => pieceByte_any c W))
        by_cases h39 : s[k] = 39
        · have t2 := tst_t s[k] (n := 39) 39 rfl h39
          have HQD := Lib.hid (fun W => quoted_any s k W (by omega) hlt)
          cases hqu : Bags.quo ((bs s).drop (k + 1)) with
          | none =>
            have HN := Lib.hid (HQ.out.no hlt (po_zero hlt h32 (pl_quo_none hlt h39 hqu)))
            have hr : quoRes s k = .tuple #[.string (tx []), .int .i64 (-1)] := by unfold quoRes; rw [hqu]
            rw [hr] at HQD
            clear h32 h39 hqu hr
            go_wp2_with fail
            refine (HS.out _).mono ?_
            rintro e w' ⟨rfl, rfl⟩
            go_wp2_with fail
            refine (HQD.out _).mono ?_
            rintro e w' ⟨rfl, hb⟩
            have HB2 := Lib.hid (HB.out.trans (hb.mono hbs))
            clear hb
            go_wp2_with fail
            go_ret2
            exact ⟨HB2.out, .inl ⟨HN.out, _, rfl⟩⟩
          | some p =>
            obtain ⟨t, n⟩ := p
            obtain ⟨hn1, hn2⟩ := quo_fit hlt hqu
            have hr : quoRes s k = .tuple #[.string (tx t), .int .i64 (k + 1 + n : Nat)] := by unfold quoRes; rw [hqu]
            have hpl := pl_quo hlt h39 hqu
            rw [hr] at HQD
            generalize hJ : k + 1 + n = J at *
            clear hqu hr h39
            have hkJ : k < J := by omega
            have hJ0 : (0 : Int) ≤ (J : Int) := by omega
            by_cases hJl : J < s.size
            · have hJ' : (J : Int) < (s.size : Int) := by omega
              by_cases hJ32 : s[J] = 32
              · have t3 : ((s[J].toNat : Int) != 32) = false := by rw [hJ32]; rfl
                have HX := Lib.hid (HQ.out.step hlt (po_ok hlt h32 hpl hkJ hn2 (fun _ => hJ32)))
                clear hJ32 h32
                go_wp2_with fail
                refine (HS.out _).mono ?_
                rintro e w' ⟨rfl, rfl⟩
                go_wp2_with fail
                refine (HQD.out _).mono ?_
                rintro e wq ⟨rfl, hb⟩
                have HB2 := Lib.hid (HB.out.trans (hb.mono hbs))
                have hown2 := own_later hown hb
                have hbs2 := HB2.out.size
                clear hb
                go_wp2_with (at_builtin; refine wpList_append_one rfl _ _ rfl (base := w.heap.size) elem_strs rfl hown2 (cs := #[.string (s.extract k J)]) rfl rfl rfl (by simp [Value.oneCell']) (by unfold maxLen; omega) (by omega) hbs2 ?_; intro b' w1 hown1 hb1 _ hz1)
                exact ⟨⟨J, acc ++ [bs (s.extract k J)], by omega, rfl, by simpa [show k + (J - k) = J by omega] using HX.out, by simpa [strV] using hown1, by simp; omega, HB2.out.trans hb1⟩, by simp [intOf]; omega⟩
              · have t3 : ((s[J].toNat : Int) != 32) = true := by rw [bne, tst_f s[J] (n := 32) 32 rfl hJ32]; rfl
                have HN := Lib.hid (HQ.out.no hlt (po_bad hlt h32 hpl hkJ hJl hJ32))
                clear hJ32 h32
                go_wp2_with fail
                refine (HS.out _).mono ?_
                rintro e w' ⟨rfl, rfl⟩
                go_wp2_with fail
                refine (HQD.out _).mono ?_
                rintro e wq ⟨rfl, hb⟩
                have HB2 := Lib.hid (HB.out.trans (hb.mono hbs))
                have hown2 := own_later hown hb
                have hbs2 := HB2.out.size
                clear hb
                go_wp2_with fail
                go_ret2
                exact ⟨HB2.out, .inl ⟨HN.out, _, rfl⟩⟩
            · have hJ' : ¬ (J : Int) < (s.size : Int) := by omega
              have HX := Lib.hid (HQ.out.step hlt (po_ok hlt h32 hpl hkJ hn2 (fun h => absurd h hJl)))
              clear h32
              go_wp2_with fail
              refine (HS.out _).mono ?_
              rintro e w' ⟨rfl, rfl⟩
              go_wp2_with fail
              refine (HQD.out _).mono ?_
              rintro e wq ⟨rfl, hb⟩
              have HB2 := Lib.hid (HB.out.trans (hb.mono hbs))
              have hown2 := own_later hown hb
              have hbs2 := HB2.out.size
              clear hb
              go_wp2_with (at_builtin; refine wpList_append_one rfl _ _ rfl (base := w.heap.size) elem_strs rfl hown2 (cs := #[.string (s.extract k J)]) rfl rfl rfl (by simp [Value.oneCell']) (by unfold maxLen; omega) (by omega) hbs2 ?_; intro b' w1 hown1 hb1 _ hz1)
              exact ⟨⟨J, acc ++ [bs (s.extract k J)], by omega, rfl, by simpa [show k + (J - k) = J by omega] using HX.out, by simpa [strV] using hown1, by simp; omega, HB2.out.trans hb1⟩, by simp [intOf]; omega⟩
        · have t2 := tst_f s[k] (n := 39) 39 rfl h39
          have hpl := pl_span hlt h39
          have hnb : notB s[k] = true := by unfold notB; simp [h32, h39]
          obtain ⟨hkJ, hn2⟩ := span_word (p := notB) hlt hnb |>.imp_right (·.1)
          generalize hJ : spanTo notB s k = J at *
          clear hnb h39
          have hJ0 : (0 : Int) ≤ (J : Int) := by omega
          by_cases hJl : J < s.size
          · have hJ' : (J : Int) < (s.size : Int) := by omega
            by_cases hJ32 : s[J] = 32
            · have t3 : ((s[J].toNat : Int) != 32) = false := by rw [hJ32]; rfl
              have HX := Lib.hid (HQ.out.step hlt (po_ok hlt h32 hpl hkJ hn2 (fun _ => hJ32)))
              clear hJ32 h32
              go_wp2_with fail
              refine (HS.out _).mono ?_
              rintro e w' ⟨rfl, rfl⟩
              have HB2 := HB
              have hown2 := hown
              have hbs2 := hbs
              go_wp2_with (at_builtin; refine wpList_append_one rfl _ _ rfl (base := w.heap.size) elem_strs rfl hown2 (cs := #[.string (s.extract k J)]) rfl rfl rfl (by simp [Value.oneCell']) (by unfold maxLen; omega) (by omega) hbs2 ?_; intro b' w1 hown1 hb1 _ hz1)
              exact ⟨⟨J, acc ++ [bs (s.extract k J)], by omega, rfl, by simpa [show k + (J - k) = J by omega] using HX.out, by simpa [strV] using hown1, by simp; omega, HB2.out.trans hb1⟩, by simp [intOf]; omega⟩
            · have t3 : ((s[J].toNat : Int) != 32) = true := by rw [bne, tst_f s[J] (n := 32) 32 rfl hJ32]; rfl
              have HN := Lib.hid (HQ.out.no hlt (po_bad hlt h32 hpl hkJ hJl hJ32))
              clear hJ32 h32
              go_wp2_with fail
              refine (HS.out _).mono ?_
              rintro e w' ⟨rfl, rfl⟩
              have HB2 := HB
              have hown2 := hown
              have hbs2 := hbs
              go_wp2_with fail
              go_ret2
              exact ⟨HB2.out, .inl ⟨HN.out, _, rfl⟩⟩
          · have hJ' : ¬ (J : Int) < (s.size : Int) := by omega
            have HX := Lib.hid (HQ.out.step hlt (po_ok hlt h32 hpl hkJ hn2 (fun h => absurd h hJl)))
            clear h32
            go_wp2_with fail
            refine (HS.out _).mono ?_
            rintro e w' ⟨rfl, rfl⟩
            have HB2 := HB
            have hown2 := hown
            have hbs2 := hbs
            go_wp2_with (at_builtin; refine wpList_append_one rfl _ _ rfl (base := w.heap.size) elem_strs rfl hown2 (cs := #[.string (s.extract k J)]) rfl rfl rfl (by simp [Value.oneCell']) (by unfold maxLen; omega) (by omega) hbs2 ?_; intro b' w1 hown1 hb1 _ hz1)
            exact ⟨⟨J, acc ++ [bs (s.extract k J)], by omega, rfl, by simpa [show k + (J - k) = J by omega] using HX.out, by simpa [strV] using hown1, by simp; omega, HB2.out.trans hb1⟩, by simp [intOf]; omega⟩
    · have hlt' : ¬ (k : Int) < (s.size : Int) := by omega
      have HN := Lib.hid (HQ.out.stop hlt)
      go_wp2_with fail
      go_ret2
      exact ⟨HB.out, .inr ⟨acc, _, HN.out, rfl, hown⟩⟩
end Go.Proofs.YtoephflcjllaaaaGreatDoor
/- Walks of the reference: lines, pieces. -/
namespace Go.Proofs.YtoephflcjllaaaaGreatDoor
open Go.RowKit

/-- What the loop of lines holds. -/
def LSeen (s : ByteArray) (f k : Nat) (acc : List Bags.Str) : Prop :=
  if k ≤ s.size then Bags.linesOf (bs s) = acc ++ Bags.joinFirst (bs (s.extract f k)) (Bags.linesOf ((bs s).drop k)) else Bags.linesOf (bs s) = acc
theorem extract_same (s : ByteArray) (k : Nat) : bs (s.extract k k) = [] := by rw [extract_eq, Nat.sub_self]; rfl
theorem extract_next {s : ByteArray} {f k : Nat} (hf : f ≤ k) (hk : k < s.size) : bs (s.extract f (k + 1)) = bs (s.extract f k) ++ [s[k]] := by
  rw [extract_eq, extract_eq, show k + 1 - f = (k - f) + 1 by omega, List.take_add_one, List.getElem?_drop, show f + (k - f) = k by omega]
  have : (bs s)[k]? = some s[k] := by
    have h := congrArg (·[0]?) (drop_cons s k hk)
    rw [List.getElem?_drop] at h
    simpa using h
  rw [this]; rfl
theorem LSeen.start (s : ByteArray) : LSeen s 0 0 [] := by
  unfold LSeen
  rw [if_pos (Nat.zero_le _), extract_same, List.drop_zero, Bags.joinFirst_nil (Bags.linesOf_ne _)]; rfl
theorem LSeen.line {s : ByteArray} {f k : Nat} {acc : List Bags.Str} (h : LSeen s f k acc) (hk : k < s.size) (hc : s[k] = 10) : LSeen s (k + 1) (k + 1) (acc ++ [bs (s.extract f k)]) := by
  unfold LSeen at *
  rw [if_pos (by omega)] at h
  rw [if_pos (by omega), h, drop_cons s k hk, hc, Bags.linesOf_line, extract_same, Bags.joinFirst_nil (Bags.linesOf_ne _)]
  simp [Bags.joinFirst]
theorem LSeen.byte {s : ByteArray} {f k : Nat} {acc : List Bags.Str} (h : LSeen s f k acc) (hf : f ≤ k) (hk : k < s.size) (hc : s[k] ≠ 10) : LSeen s f (k + 1) acc := by
  unfold LSeen at *
  rw [if_pos (by omega)] at h
  rw [if_pos (by omega), h, drop_cons s k hk, Bags.linesOf_byte _ hc, Bags.joinFirst_join, extract_next hf hk]
theorem LSeen.last {s : ByteArray} {f : Nat} {acc : List Bags.Str} (h : LSeen s f s.size acc) : Bags.linesOf (bs s) = acc ++ [bs (s.extract f s.size)] := by
  unfold LSeen at h
  rw [if_pos (Nat.le_refl _)] at h
  rw [h, drop_nil s _ (Nat.le_refl _)]; simp [Bags.linesOf, Bags.joinFirst]
theorem LSeen.over {s : ByteArray} {f k : Nat} {acc : List Bags.Str} (h : LSeen s f k acc) (hk : ¬ k ≤ s.size) : Bags.linesOf (bs s) = acc := by
  unfold LSeen at h
  rwa [if_neg hk] at h

/-- What lines answers. -/
def LinesPost (s : ByteArray) (w : World) (e : Ending) (w' : World) : Prop :=
  Below w.heap.size w w' ∧ ∃ v, e = .returned v ∧ w'.ownsRow w.heap.size 9 1 v (Bags.linesOf (bs s)).length ((Bags.linesOf (bs s)).map strV)

set_option maxRecDepth 100000 in
set_option maxHeartbeats 2000000 in
theorem lines_ref (s : ByteArray) (w : World) (hs : s.size ≤ 4000) :
    Calls Tryz.prog 13 #[.string s] w (LinesPost s w) := by
  go_enter Tryz.func13, Tryz.ntmps13
  go_wp2_with fail
  go_loopw [3, 4, 5] (fun o f v wr => ∃ (k f' : Nat) (acc : List Bags.Str), k ≤ s.size + 1 ∧ (k ≤ s.size → f' ≤ k) ∧ v = .int .i64 (k : Nat) ∧ f = .int .i64 (f' : Nat) ∧ LSeen s f' k acc ∧ wr.ownsRow w.heap.size 9 1 o acc.length (acc.map strV) ∧ acc.length ≤ k ∧ Below w.heap.size w wr) (fun _ _ v _ => s.size + 1 - (intOf v).toNat)
  case atStart => exact ⟨0, 0, [], by omega, by omega, rfl, rfl, LSeen.start s, ⟨by simp, .inl ⟨rfl, rfl⟩⟩, by simp, Below.refl _ _⟩
  case round =>
    rename_i wr
    obtain ⟨k, f, acc, hk, hf, rfl, rfl, hq, hown, hacc, hbl⟩ := hrel
    have HQ := Lib.hid hq
    have HB := Lib.hid hbl
    have hbs := hbl.size
    clear hq hbl
    by_cases hlt : k < s.size
    · have hlt' : (k : Int) < (s.size : Int) := by omega
      have hle : (k : Int) ≤ (s.size : Int) := by omega
      have hne : ((k : Int) == (s.size : Int)) = false := by simp; omega
      have hfk : f ≤ k := hf (by omega)
      by_cases h10 : s[k] = 10
      · have t1 := tst_t s[k] (n := 10) 10 rfl h10
        have HX := Lib.hid (HQ.out.line hlt h10)
        clear h10 hf
        go_wp2_with (at_builtin; refine wpList_append_one rfl _ _ rfl (base := w.heap.size) elem_strs rfl hown (cs := #[.string (s.extract f k)]) rfl rfl rfl (by simp [Value.oneCell']) (by unfold maxLen; omega) (by omega) hbs ?_; intro b' w1 hown1 hb1 _ hz1)
        exact ⟨⟨k + 1, k + 1, acc ++ [bs (s.extract f k)], by omega, by omega, by simp, by simp, HX.out, by simpa [strV] using hown1, by simp; omega, HB.out.trans hb1⟩, by simp [intOf]; omega⟩
      · have t1 := tst_f s[k] (n := 10) 10 rfl h10
        have HX := Lib.hid (HQ.out.byte hfk hlt h10)
        clear h10 hf
        go_wp2_with fail
        exact ⟨⟨k + 1, f, acc, by omega, by omega, by simp, rfl, HX.out, hown, by omega, HB.out⟩, by simp [intOf]; omega⟩
    · by_cases hend : k = s.size
      · subst hend
        have hfk : f ≤ s.size := hf (by omega)
        have HX := Lib.hid HQ.out.last
        clear hf hlt
        go_wp2_with (at_builtin; refine wpList_append_one rfl _ _ rfl (base := w.heap.size) elem_strs rfl hown (cs := #[.string (s.extract f s.size)]) rfl rfl rfl (by simp [Value.oneCell']) (by unfold maxLen; omega) (by omega) hbs ?_; intro b' w1 hown1 hb1 _ hz1)
        exact ⟨⟨s.size + 1, s.size + 1, acc ++ [bs (s.extract f s.size)], by omega, by omega, by simp, by simp, by unfold LSeen; rw [if_neg (by omega)]; exact HX.out, by simpa [strV] using hown1, by simp; omega, HB.out.trans hb1⟩, by simp [intOf]⟩
      · have hle : ¬ (k : Int) ≤ (s.size : Int) := by omega
        have HN := Lib.hid (HQ.out.over (by omega))
        go_wp2_with fail
        go_ret
        exact ⟨HB.out, _, rfl, by rw [HN.out]; exact hown⟩
end Go.Proofs.YtoephflcjllaaaaGreatDoor
/- Walk of the reference: pieces. -/
namespace Go.Proofs.YtoephflcjllaaaaGreatDoor
open Go.RowKit
theorem extract_rest (s : ByteArray) (k : Nat) : bs (s.extract k s.size) = (bs s).drop k := by
  rw [extract_eq, List.take_of_length_le (by rw [List.length_drop, bs_length]; omega)]
theorem size_rest (s : ByteArray) (k : Nat) : (s.extract k s.size).size = s.size - k := by rw [← bs_length, extract_rest, List.length_drop, bs_length]

set_option maxRecDepth 100000 in
set_option maxHeartbeats 2000000 in
theorem pieces_ref (s : ByteArray) (w : World) (hs : s.size ≤ 4000) :
    Calls Tryz.prog 14 #[.string s] w (PiecesPost s w) := by
  go_enter Tryz.func14, Tryz.ntmps14
  go_wp2_with fail
  go_loopw [4, 5] (fun o v wr => ∃ k acc, k ≤ s.size ∧ v = .int .i64 (k : Nat) ∧ PSeen s k acc ∧ wr.ownsRow w.heap.size 9 1 o acc.length (acc.map strV) ∧ acc.length ≤ k ∧ Below w.heap.size w wr) (fun _ v _ => s.size - (intOf v).toNat)
  case atStart => exact ⟨0, [], by omega, rfl, PSeen.start s, ⟨by simp, .inl ⟨rfl, rfl⟩⟩, by simp, Below.refl _ _⟩
  case round =>
    rename_i wr
    obtain ⟨k, acc, hk, rfl, hq, hown, hacc, hbl⟩ := hrel
    have HQ := Lib.hid hq
    have HB := Lib.hid hbl
    have hbs := hbl.size
    clear hq hbl
    by_cases hlt : k < s.size
    · have hlt' : (k : Int) < (s.size : Int) := by omega
      by_cases h32 : s[k] = 32
      · have t1 := tst_t s[k] (n := 32) 32 rfl h32
        have HX := Lib.hid (HQ.out.step hlt (po_blank hlt h32))
        clear h32
        go_wp2_with fail
        exact ⟨⟨k + 1, acc, by omega, by simp, by simpa using HX.out, hown, by omega, HB.out⟩, by simp [intOf]; omega⟩
      · have t1 := tst_f s[k] (n := 32) 32 rfl h32
        by_cases h39 : s[k] = 39
        · have t2 := tst_t s[k] (n := 39) 39 rfl h39
          have HQD := Lib.hid (fun W => quoted_ref (s.extract k s.size) W (by rw [size_rest]; omega) (by rw [size_rest]; omega))
          have hrest : (bs (s.extract k s.size)).drop 1 = (bs s).drop (k + 1) := by rw [extract_rest, List.drop_drop]
          cases hqu : Bags.quo ((bs s).drop (k + 1)) with
          | none =>
            have HN := Lib.hid (HQ.out.no hlt (po_zero hlt h32 (pl_quo_none hlt h39 hqu)))
            have hr : quoRef (s.extract k s.size) = .tuple #[.string (tx []), .int .i64 0] := by unfold quoRef; rw [hrest, hqu]; rfl
            rw [hr] at HQD
            clear h32 h39 hqu hr hrest
            go_wp2_with fail
            refine (HQD.out _).mono ?_
            rintro e w' ⟨rfl, rfl⟩
            go_wp2_with fail
            go_ret2
            exact ⟨HB.out, .inl ⟨HN.out, _, rfl⟩⟩
          | some p =>
            obtain ⟨t, n⟩ := p
            obtain ⟨hn1, hn2⟩ := quo_fit hlt hqu
            have hr : quoRef (s.extract k s.size) = .tuple #[.string (tx t), .int .i64 (1 + n : Nat)] := by unfold quoRef; rw [hrest, hqu]
            have hpl := pl_quo hlt h39 hqu
            rw [hr] at HQD
            have hpl : Bags.pieceLen ((bs s).drop k) = 1 + n := by rw [hpl]; omega
            have hn2 : k + (1 + n) ≤ s.size := by omega
            have hnpos : 1 ≤ 1 + n := by omega
            generalize 1 + n = n at *
            clear hqu hr h39 hrest hn1
            have hn0' : ((n : Int) == 0) = false := by simp; omega
            by_cases hJl : k + n < s.size
            · have hJ' : (k : Int) + (n : Int) < (s.size : Int) := by omega
              by_cases hJ32 : s[k + n] = 32
              · have t3 : ((s[k + n].toNat : Int) != 32) = false := by rw [hJ32]; rfl
                have hx := HQ.out.step hlt (po_ok (J := k + n) hlt h32 (by rw [hpl]; omega) (by omega) hn2 (fun _ => hJ32))
                rw [show k + (k + n - k) = k + n by omega] at hx
                have HX := Lib.hid hx
                clear hJ32 h32 hx
                go_wp2_with fail
                refine (HQD.out _).mono ?_
                rintro e w' ⟨rfl, rfl⟩
                go_wp2_with (at_builtin; refine wpList_append_one rfl _ _ rfl (base := w.heap.size) elem_strs rfl hown (cs := #[.string (s.extract k (k + n))]) rfl rfl rfl (by simp [Value.oneCell']) (by unfold maxLen; omega) (by omega) hbs ?_; intro b' w1 hown1 hb1 _ hz1)
                exact ⟨⟨k + n, acc ++ [bs (s.extract k (k + n))], by omega, by simp, by simpa using HX.out, by simpa [strV] using hown1, by simp; omega, HB.out.trans hb1⟩, by simp [intOf]; omega⟩
              · have t3 : ((s[k + n].toNat : Int) != 32) = true := by rw [bne, tst_f s[k + n] (n := 32) 32 rfl hJ32]; rfl
                have HN := Lib.hid (HQ.out.no hlt (po_bad (J := k + n) hlt h32 (by rw [hpl]; omega) (by omega) hJl hJ32))
                clear hJ32 h32
                go_wp2_with fail
                refine (HQD.out _).mono ?_
                rintro e w' ⟨rfl, rfl⟩
                go_wp2_with fail
                go_ret2
                exact ⟨HB.out, .inl ⟨HN.out, _, rfl⟩⟩
            · have hJ' : ¬ (k : Int) + (n : Int) < (s.size : Int) := by omega
              have hx := HQ.out.step hlt (po_ok (J := k + n) hlt h32 (by rw [hpl]; omega) (by omega) hn2 (fun h => absurd h hJl))
              rw [show k + (k + n - k) = k + n by omega] at hx
              have HX := Lib.hid hx
              clear h32 hx
              go_wp2_with fail
              refine (HQD.out _).mono ?_
              rintro e w' ⟨rfl, rfl⟩
              go_wp2_with (at_builtin; refine wpList_append_one rfl _ _ rfl (base := w.heap.size) elem_strs rfl hown (cs := #[.string (s.extract k (k + n))]) rfl rfl rfl (by simp [Value.oneCell']) (by unfold maxLen; omega) (by omega) hbs ?_; intro b' w1 hown1 hb1 _ hz1)
              exact ⟨⟨k + n, acc ++ [bs (s.extract k (k + n))], by omega, by simp, by simpa using HX.out, by simpa [strV] using hown1, by simp; omega, HB.out.trans hb1⟩, by simp [intOf]; omega⟩
        · have t2 := tst_f s[k] (n := 39) 39 rfl h39
          have hpl0 := pl_span hlt h39
          have hnb : notB s[k] = true := by unfold notB; simp [h32, h39]
          obtain ⟨hkJ, hJ2, _, _⟩ := span_word (p := notB) hlt hnb
          have HSP := Lib.hid (rfl : spanTo notB s k = spanTo notB s k)
          clear hnb h39
          go_wp2_with fail
          go_loop [6] (fun v => ∃ j : Nat, v = .int .i64 j ∧ k + j ≤ s.size ∧ spanTo notB s (k + j) = spanTo notB s k) (fun v => s.size - (intOf v).toNat)
          case atStart => exact ⟨0, rfl, by omega, rfl⟩
          case round =>
            obtain ⟨j, rfl, hj, hsp⟩ := hrel
            have HSJ := Lib.hid hsp
            clear hsp
            by_cases hjl : k + j < s.size
            · have hjl' : (k : Int) + (j : Int) < (s.size : Int) := by omega
              by_cases g32 : s[k + j] = 32
              · have u1 : ((s[k + j].toNat : Int) != 32) = false := by rw [g32]; rfl
                have hn : spanTo notB s k = k + j := HSJ.out.symm.trans (spanTo_no (p := notB) hjl (by rw [g32]; decide))
                rw [hn] at hpl0 hkJ hJ2
                have hpl : Bags.pieceLen ((bs s).drop k) = k + j - k := by rw [hpl0]
                have hx := HQ.out.step hlt (po_ok (J := k + j) hlt h32 hpl (by omega) (by omega) (fun _ => g32))
                rw [show k + (k + j - k) = k + j by omega] at hx
                have HX := Lib.hid hx
                have hn0' : ((j : Int) == 0) = false := by simp; omega
                clear hn hpl0 hpl HSP g32 HSJ hx h32
                go_wp2_with (at_builtin; refine wpList_append_one rfl _ _ rfl (base := w.heap.size) elem_strs rfl hown (cs := #[.string (s.extract k (k + j))]) rfl rfl rfl (by simp [Value.oneCell']) (by unfold maxLen; omega) (by omega) hbs ?_; intro b' w1 hown1 hb1 _ hz1)
                exact ⟨⟨k + j, acc ++ [bs (s.extract k (k + j))], by omega, by simp, by simpa using HX.out, by simpa [strV] using hown1, by simp; omega, HB.out.trans hb1⟩, by simp [intOf]; omega⟩
              · by_cases g39 : s[k + j] = 39
                · have u1 : ((s[k + j].toNat : Int) != 32) = true := by rw [g39]; rfl
                  have u2 : ((s[k + j].toNat : Int) != 39) = false := by rw [g39]; rfl
                  have hn : spanTo notB s k = k + j := HSJ.out.symm.trans (spanTo_no (p := notB) hjl (by rw [g39]; decide))
                  rw [hn] at hpl0 hkJ hJ2
                  have hpl : Bags.pieceLen ((bs s).drop k) = k + j - k := by rw [hpl0]
                  have HN := Lib.hid (HQ.out.no hlt (po_bad (J := k + j) hlt h32 hpl (by omega) hjl g32))
                  have hn0' : ((j : Int) == 0) = false := by simp; omega
                  clear hn hpl0 hpl HSP g39 g32 HSJ h32
                  go_wp2_with fail
                  go_ret2
                  exact ⟨HB.out, .inl ⟨HN.out, _, rfl⟩⟩
                · have u1 : ((s[k + j].toNat : Int) != 32) = true := by rw [bne, tst_f s[k + j] (n := 32) 32 rfl g32]; rfl
                  have u2 : ((s[k + j].toNat : Int) != 39) = true := by rw [bne, tst_f s[k + j] (n := 39) 39 rfl g39]; rfl
                  have HSJ2 := Lib.hid ((spanTo_yes (p := notB) hjl (by unfold notB; simp [g32, g39])).symm.trans HSJ.out)
                  clear g32 g39 HSJ
                  go_wp2_with fail
                  exact ⟨⟨j + 1, by simp, by omega, HSJ2.out⟩, by simp [intOf]; omega⟩
            · have hjl' : ¬ (k : Int) + (j : Int) < (s.size : Int) := by omega
              have hn : spanTo notB s k = k + j := HSJ.out.symm.trans (spanTo_stop hjl)
              rw [hn] at hpl0 hkJ hJ2
              have hpl : Bags.pieceLen ((bs s).drop k) = k + j - k := by rw [hpl0]
              have hx := HQ.out.step hlt (po_ok (J := k + j) hlt h32 hpl (by omega) (by omega) (fun h => absurd h hjl))
              rw [show k + (k + j - k) = k + j by omega] at hx
              have HX := Lib.hid hx
              have hn0' : ((j : Int) == 0) = false := by simp; omega
              clear hn hpl0 hpl HSP HSJ hx h32
              go_wp2_with (at_builtin; refine wpList_append_one rfl _ _ rfl (base := w.heap.size) elem_strs rfl hown (cs := #[.string (s.extract k (k + j))]) rfl rfl rfl (by simp [Value.oneCell']) (by unfold maxLen; omega) (by omega) hbs ?_; intro b' w1 hown1 hb1 _ hz1)
              exact ⟨⟨k + j, acc ++ [bs (s.extract k (k + j))], by omega, by simp, by simpa using HX.out, by simpa [strV] using hown1, by simp; omega, HB.out.trans hb1⟩, by simp [intOf]; omega⟩
    · have hlt' : ¬ (k : Int) < (s.size : Int) := by omega
      have HN := Lib.hid (HQ.out.stop hlt)
      go_wp2_with fail
      go_ret2
      exact ⟨HB.out, .inr ⟨acc, _, HN.out, rfl, hown⟩⟩
end Go.Proofs.YtoephflcjllaaaaGreatDoor
