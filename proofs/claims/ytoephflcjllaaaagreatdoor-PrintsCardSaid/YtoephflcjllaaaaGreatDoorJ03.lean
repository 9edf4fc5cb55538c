/- Small laws on memory that the walks lean on: a block known whole; an append of one element to a row of the call's own; bytes and texts. -/
import Derived.Test.YtoephflcjllaaaaGreatDoorProg
import Derived.WalkKit
import Derived.WalkSpells
import Derived.WalkLawsBesides
import Derived.Lib.Hide
import Derived.Test.YtoephflcjllaaaaGreatDoorJ01
namespace Go.Proofs.YtoephflcjllaaaaGreatDoor
open Go.RowKit

theorem ret_bool {a b : Bool} (h : a = b) : Ending.returned (.bool a) = .returned (.bool b) := by rw [h]
theorem ret_int {k : IntKind} {a b : Int} (h : a = b) : Ending.returned (.int k a) = .returned (.int k b) := by rw [h]

/-! ### Blocks -/
/-- Block g holds just the cells cs, of element type t, and may be written. -/
def Blk (w : World) (g : Nat) (t : TypeId) (cs : Array Value) : Prop := w.heap[g]? = some (.cells cs t (0, 0))
section
variable {w w' : World} {g : Nat} {t : TypeId} {cs : Array Value}
theorem lt_of_some {o : Obj} (h : w.heap[g]? = some o) : g < w.heap.size := by
  rcases Nat.lt_or_ge g w.heap.size with h1 | h1
  · exact h1
  · rw [Array.getElem?_eq_none h1] at h; cases h
theorem Blk.lt (h : Blk w g t cs) : g < w.heap.size := lt_of_some h
theorem Blk.cell (h : Blk w g t cs) (i : Nat) : w.cell? ⟨g, i, none⟩ = cs[i]? := by
  unfold Blk at h; simp [World.cell?, h]
theorem Blk.free (h : Blk w g t cs) (i : Nat) : w.frozen? ⟨g, i, none⟩ = false := by
  unfold Blk at h; simp [World.frozen?, h]
theorem Blk.made (w : World) (t : TypeId) (cs : Array Value) : Blk (w.alloc (.cells cs t)) w.heap.size t cs := heap_alloc_new w _
theorem Blk.made' {w : World} {g : Nat} (h : w.heap.size = g) (t : TypeId) (cs : Array Value) : Blk (w.alloc (.cells cs t)) g t cs := h ▸ Blk.made w t cs
theorem Blk.alloc (h : Blk w g t cs) (o : Obj) : Blk (w.alloc o) g t cs := (Below.heap_alloc w o g h.lt).trans h
theorem Blk.drew (h : Blk w g t cs) : Blk w.drew g t cs := h
theorem Blk.put (h : Blk w g t cs) (i : Nat) (u : Value) : Blk (w.setCell ⟨g, i, none⟩ u) g t (cs.setIfInBounds i u) := by
  unfold Blk at h ⊢
  simp [World.setCell, Array.getElem?_modify, h]
theorem Blk.far (h : Blk w g t cs) {p : Addr} (hp : g ≠ p.block) (u : Value) : Blk (w.setCell p u) g t cs := (Below.heap_setCell w p u g hp).trans h
theorem Blk.below {B : Nat} (h : Blk w g t cs) (hb : Below B w w') (hg : g < B) : Blk w' g t cs := (hb.block g hg).trans h
theorem Blk.later (h : Blk w g t cs) (hb : Below w.heap.size w w') : Blk w' g t cs := h.below hb h.lt
theorem Blk.grown {row : Option Nat} (h : Blk w g t cs) (hb : w.grownBy w' row) (hg : some g ≠ row) : Blk w' g t cs := (hb.block g h.lt hg).trans h
end

/-! ### What is read of a block that was there -/
theorem bcell {W w1 : World} (hb : Below W.heap.size W w1) : (∀ b o, b < W.heap.size → w1.cell? ⟨b, o, none⟩ = W.cell? ⟨b, o, none⟩) ∧ (∀ b o, b < W.heap.size → w1.frozen? ⟨b, o, none⟩ = W.frozen? ⟨b, o, none⟩) :=
  ⟨fun b o h => hb.cell (p := ⟨b, o, none⟩) h, fun b o h => hb.frozen (p := ⟨b, o, none⟩) h⟩

/-! ### An append of one element -/
/-- t is the type of slices of e, whose values take so many cells and bytes. -/
structure Elem (P : Program) (t e : TypeId) (size bytes : Nat) : Prop where
  sl : P.underlying t = some (.slice e)
  info : (P.info? e).map (fun i => (i.zero.map (·.cells.size), i.size, i.bytes)) = some (some size, size, bytes)
  pos : 0 < size
theorem Elem.parts {P : Program} {t e : TypeId} {size bytes : Nat} (h : Elem P t e size bytes) :
    ∃ i z, P.info? e = some i ∧ i.zero = some z ∧ i.size = size ∧ i.bytes = bytes ∧ z.cells.size = size := by
  have := h.info
  cases hi : P.info? e with
  | none => rw [hi] at this; simp at this
  | some i =>
    rw [hi] at this
    simp only [Option.map_some, Option.some.injEq, Prod.mk.injEq] at this
    obtain ⟨h1, h2, h3⟩ := this
    cases hz : i.zero with
    | none => rw [hz] at h1; simp at h1
    | some z => rw [hz] at h1; exact ⟨i, z, rfl, hz, h2, h3, by simpa using h1⟩

theorem wpList_append_one {P : Program} {ops : Array Oper} {rest : List Oper} {o : Oper} {a : Act} {Q : Exit → Act → World → Prop} (hgd : o.guard = none) (s x : Operand) {t : TypeId}
    (ho : o.op = .call { callee := .builtin .append, args := #[s, x], argTypes := #[t, t] })
    {base : Nat} {e : TypeId} {size bytes : Nat} (hE : Elem P t e size bytes) {w : World} {v : Value} {n : Nat} {xs : List Value} (hs : a.eval s = v) (hown : w.ownsRow base e size v n xs)
    {cs : Array Value} {g : Nat} (hx : a.eval x = .slice (some ⟨g, 0, none⟩) 1 1) (hg : w.heap.size = g) (hcs : cs.size = size) (h1 : ∀ u ∈ cs.toList, u.oneCell' = true)
    (h63 : n + 1 ≤ maxLen) (hbytes : (n + 1) * bytes ≤ 140737488355328) (hbase : base ≤ w.heap.size)
    (h : ∀ v' w', w'.ownsRow base e size v' (n + 1) (xs ++ cs.toList) → Below base w w' → (∀ k, k < w.heap.size → some k ≠ v.ownBlock → w'.heap[k]? = w.heap[k]?) → w.heap.size ≤ w'.heap.size → wpList P ops Q rest (a.put o.dst v') w') :
    wpList P ops Q (o :: rest) a (w.alloc (.cells cs e)) := by
  subst hg
  obtain ⟨i, z, hi, hz, hsz, hby, hzc⟩ := hE.parts
  have hblk := Blk.made w e cs
  refine wpList_append_own _ hgd s x t ho base e i z size bytes hE.sl hi hz hsz hby hzc hE.pos v n xs hs (hown.alloc _) ⟨w.heap.size, 0, none⟩ 1 1 cs.toList hx (by simp [hcs]) ?_ h1 h63 hbytes (by simp; omega) ?_
  · intro j u hu
    have : (⟨w.heap.size, 0, none⟩ : Addr).add j = ⟨w.heap.size, j, none⟩ := by unfold Addr.add; split <;> simp_all
    rw [this, hblk.cell j]
    simpa using hu
  · intro v' w' h2 h3 _
    have hlt := hown.lt
    refine h v' w' h2 ⟨h3.os, h3.tape, h3.output, Nat.le_trans (by simp) h3.size, fun k hk => ?_⟩ (fun k hk hne => ?_) (Nat.le_trans (by simp) h3.size)
    · refine (h3.block k (by simp; omega) (fun e => ?_)).trans (Below.heap_alloc w _ k (by omega))
      have := (hlt k e.symm).1
      omega
    · exact (h3.block k (by simp; omega) hne).trans (Below.heap_alloc w _ k hk)

/-! ### Bytes and texts -/
def bv (c : UInt8) : Value := .int .u8 c.toNat
def bs (s : ByteArray) : List UInt8 := s.data.toList
/-- A text out of bytes. -/
def tx (l : List UInt8) : ByteArray := ⟨l.toArray⟩
@[simp] theorem bs_tx (l : List UInt8) : bs (tx l) = l := rfl
@[simp] theorem tx_bs (s : ByteArray) : tx (bs s) = s := by cases s; rfl
theorem bs_length (s : ByteArray) : (bs s).length = s.size := by simp [bs]
theorem tx_size (l : List UInt8) : (tx l).size = l.length := rfl
theorem bs_inj {s t : ByteArray} (h : bs s = bs t) : s = t := by rw [← tx_bs s, h, tx_bs]
theorem drop_cons (s : ByteArray) (k : Nat) (h : k < s.size) : (bs s).drop k = s[k] :: (bs s).drop (k + 1) := by
  unfold bs
  rw [List.drop_eq_getElem_cons (by simpa using h)]
  rfl
theorem drop_nil (s : ByteArray) (k : Nat) (h : s.size ≤ k) : (bs s).drop k = [] := List.drop_of_length_le (by rw [bs_length]; exact h)

theorem run_convert_own {P : Program} {w : World} {base : Nat} {v : Value} {l : List UInt8} {src dst e : TypeId} (hs : P.underlying src = some (.slice e)) (he : P.underlying e = some (.int .u8))
    (hd : P.underlying dst = some .string) (h : w.ownsRow base e 1 v l.length (l.map bv)) : (convert src dst v).run P w = .ok (.string (tx l)) w := by
  obtain ⟨hl, h⟩ := h
  rcases h with ⟨rfl, h0⟩ | ⟨g, cap, cur, rfl, hg, hb, hn, hc, hsz, ht⟩
  · have : l = [] := List.eq_nil_of_length_eq_zero h0
    subst this
    exact run_convert_bytes_nil w src e hs he 0 0 dst hd
  · have hcell : ∀ i, i < l.length → w.cell? ⟨g, 0 + i, none⟩ = some (.int .u8 ((l.map fun c => (c.toNat : Int)).getD i 0)) := by
      intro i hi
      have h1 : w.cell? ⟨g, i, none⟩ = cur[i]? := by simp [World.cell?, hb]
      rw [Nat.zero_add, h1]
      have h2 : (cur.toList.take (l.length * 1))[i]? = (l.map bv)[i]? := by rw [ht]
      rw [List.getElem?_take_of_lt (by omega)] at h2
      rw [← Array.getElem?_toList, h2]
      simp [hi, bv]
    rw [run_convert_bytes_arg w src e hs he g 0 l.length cap (l.map fun c => (c.toNat : Int)) (by simp) hcell dst hd]
    simp only [strOfNums, tx, List.map_map]
    congr 4
    refine (List.map_congr_left fun c _ => ?_).trans (List.map_id l)
    simp
end Go.Proofs.YtoephflcjllaaaaGreatDoor
/- Walks: letters, digits, spans, quoted texts. -/
namespace Go.Proofs.YtoephflcjllaaaaGreatDoor
open Go.RowKit

theorem u8_eq (c : UInt8) (n : Nat) (h : n < 256) : (c == UInt8.ofNat n) = decide ((c.toNat : Int) = n) := by
  rw [Bool.eq_iff_iff]
  simp only [beq_iff_eq, decide_eq_true_eq]
  constructor
  · intro e; rw [e]; simp; omega
  · intro e; apply UInt8.toNat_inj.1; simp; omega
theorem letter_eq (c : UInt8) : Bags.letter c = decide ((c.toNat : Int) = 95 ∨ (97 ≤ (c.toNat : Int) ∧ (c.toNat : Int) ≤ 122) ∨ (65 ≤ (c.toNat : Int) ∧ (c.toNat : Int) ≤ 90)) := by
  unfold Bags.letter
  rw [show (95 : UInt8) = UInt8.ofNat 95 from rfl, u8_eq c 95 (by decide), Bool.eq_iff_iff]
  simp [UInt8.le_iff_toNat_le]
  omega
theorem digit_eq (c : UInt8) : Bags.digit c = decide (48 ≤ (c.toNat : Int) ∧ (c.toNat : Int) ≤ 57) := by
  unfold Bags.digit
  rw [Bool.eq_iff_iff]
  simp [UInt8.le_iff_toNat_le]
  omega

set_option maxHeartbeats 400000 in
theorem letter_any (c : UInt8) (w : World) :
    Calls Tryz.prog 70 #[.int .u8 c.toNat] w fun e w' => e = .returned (.bool (Bags.letter c)) ∧ w = w' := by
  rw [letter_eq]
  generalize (c.toNat : Int) = n
  go_enter Tryz.func70, Tryz.ntmps70
  go_wp2
  all_goals
    go_ret
    exact ⟨ret_bool (by first | rfl | (rw [Bool.eq_iff_iff]; simp; omega)), rfl⟩

set_option maxHeartbeats 400000 in
theorem digit_any (c : UInt8) (w : World) :
    Calls Tryz.prog 72 #[.int .u8 c.toNat] w fun e w' => e = .returned (.bool (Bags.digit c)) ∧ w = w' := by
  rw [digit_eq]
  generalize (c.toNat : Int) = n
  go_enter Tryz.func72, Tryz.ntmps72
  go_wp2
  all_goals
    go_ret
    exact ⟨ret_bool (by first | rfl | (rw [Bool.eq_iff_iff]; simp; omega)), rfl⟩

set_option maxHeartbeats 400000 in
theorem alnum_any_isName (c : UInt8) (w : World) :
    Calls Tryz.prog 71 #[.int .u8 c.toNat] w fun e w' => e = .returned (.bool (Bags.alnum c)) ∧ w = w' := by
  unfold Bags.alnum
  cases hl : Bags.letter c <;>
  · have hL := letter_any c
    have hD := digit_any c
    rw [hl] at hL
    have HL := Lib.hid hL
    have HD := Lib.hid hD
    clear hL hD hl
    go_enter Tryz.func71, Tryz.ntmps71
    go_wp2_with (first | (go_at_call 70; refine (HL.out _).mono ?_; rintro e w' ⟨rfl, rfl⟩) | (go_at_call 72; refine (HD.out _).mono ?_; rintro e w' ⟨rfl, rfl⟩))
    go_ret
    exact ⟨by simp, rfl⟩

set_option maxHeartbeats 400000 in
theorem alnum_any_words (c : UInt8) (w : World) :
    Calls Tryz.prog 78 #[.int .u8 c.toNat] w fun e w' => e = .returned (.bool (Bags.alnum c)) ∧ w = w' := by
  unfold Bags.alnum
  cases hl : Bags.letter c <;>
  · have hL := letter_any c
    have hD := digit_any c
    rw [hl] at hL
    have HL := Lib.hid hL
    have HD := Lib.hid hD
    clear hL hD hl
    go_enter Tryz.func78, Tryz.ntmps78
    go_wp2_with (first | (go_at_call 70; refine (HL.out _).mono ?_; rintro e w' ⟨rfl, rfl⟩) | (go_at_call 72; refine (HD.out _).mono ?_; rintro e w' ⟨rfl, rfl⟩))
    go_ret
    exact ⟨by simp, rfl⟩

theorem u8_ne (c : UInt8) (n : Nat) (h : n < 256) : (c != UInt8.ofNat n) = ((c.toNat : Int) != n) := by
  have := u8_eq c n h
  rw [bne, this, Bool.eq_iff_iff]
  simp [bne_iff_ne]

set_option maxHeartbeats 400000 in
theorem noline_any (c : UInt8) (w : World) :
    Calls Tryz.prog 77 #[.int .u8 c.toNat] w fun e w' => e = .returned (.bool (c != 10)) ∧ w = w' := by
  rw [show (10 : UInt8) = UInt8.ofNat 10 from rfl, u8_ne c 10 (by decide)]
  generalize (c.toNat : Int) = n
  go_enter Tryz.func77, Tryz.ntmps77
  go_wp2
  go_ret
  exact ⟨rfl, rfl⟩

set_option maxHeartbeats 400000 in
theorem other_any (c d : UInt8) (p : Addr) (w : World) (hc : w.cell? p = some (.int .u8 c.toNat)) :
    Calls Tryz.prog 79 #[.int .u8 d.toNat, .pointer (some p)] w fun e w' => e = .returned (.bool (d != c)) ∧ w = w' := by
  have e : (d != c) = ((d.toNat : Int) != c.toNat) := by rw [bne_eq, Bool.eq_iff_iff]; simp [UInt8.toNat_inj.symm]; omega
  rw [e]
  clear e
  go_enter Tryz.func79, Tryz.ntmps79
  go_wp2
  go_ret
  exact ⟨rfl, rfl⟩

set_option maxHeartbeats 400000 in
theorem pieceByte_any (c : UInt8) (w : World) :
    Calls Tryz.prog 46 #[.int .u8 c.toNat] w fun e w' => e = .returned (.bool (c != 32 && c != 39)) ∧ w = w' := by
  rw [show (32 : UInt8) = UInt8.ofNat 32 from rfl, show (39 : UInt8) = UInt8.ofNat 39 from rfl, u8_ne c 32 (by decide), u8_ne c 39 (by decide)]
  generalize (c.toNat : Int) = n
  go_enter Tryz.func46, Tryz.ntmps46
  go_wp2
  all_goals
    go_ret
    exact ⟨ret_bool (by first | rfl | (rw [Bool.eq_iff_iff]; simp; omega)), rfl⟩

/-- span: as far as the bytes are of that kind. -/
def spanTo (p : UInt8 → Bool) (s : ByteArray) (i : Nat) : Nat := i + (((bs s).drop i).takeWhile p).length
theorem spanTo_stop {p : UInt8 → Bool} {s : ByteArray} {i : Nat} (h : ¬ i < s.size) : spanTo p s i = i := by
  unfold spanTo
  rw [List.drop_of_length_le (by rw [bs_length]; omega)]; simp
theorem spanTo_no {p : UInt8 → Bool} {s : ByteArray} {i : Nat} (h : i < s.size) (hp : p s[i] = false) : spanTo p s i = i := by
  unfold spanTo; rw [drop_cons s i h]; simp [hp]
theorem spanTo_yes {p : UInt8 → Bool} {s : ByteArray} {i : Nat} (h : i < s.size) (hp : p s[i] = true) : spanTo p s i = spanTo p s (i + 1) := by
  unfold spanTo; rw [drop_cons s i h]; simp [hp]; omega

set_option maxHeartbeats 400000 in
theorem span_any (F : FuncId) (caps : Array Value) (p : UInt8 → Bool) (s : ByteArray) (i : Nat) (w : World) (hs : s.size ≤ maxLen) (hi : i ≤ s.size)
    (hcall : ∀ (args : Array Value) (w : World), (callFunc F args).run Tryz.prog w = .ok (.enter F args) w)
    (hp : ∀ c : UInt8, Calls Tryz.prog F (#[.int .u8 c.toNat] ++ caps) w fun e w' => e = .returned (.bool (p c)) ∧ w = w') :
    Calls Tryz.prog 45 #[.string s, .int .i64 i, .func (.func F) #[] caps] w fun e w' => e = .returned (.int .i64 (spanTo p s i)) ∧ w = w' := by
  unfold maxLen at hs
  have HP := Lib.hid hp
  clear hp
  go_enter Tryz.func45, Tryz.ntmps45
  go_wp2_with fail
  go_loop [1] (fun v => ∃ k : Nat, k ≤ s.size ∧ spanTo p s k = spanTo p s i ∧ v = .int .i64 k) (fun v => s.size - (intOf v).toNat)
  case atStart => exact ⟨i, hi, rfl, rfl⟩
  case round =>
    obtain ⟨k, hk, he, rfl⟩ := hrel
    have HE := Lib.hid he
    clear he
    by_cases hlt : k < s.size
    · cases hb : p s[k]
      · have HF := Lib.hid (HE.out.symm.trans (spanTo_no hlt hb))
        have hpk := HP.out s[k]
        rw [hb] at hpk
        have HK := Lib.hid hpk
        clear hpk hb
        go_wp2_with fail
        refine HK.out.mono ?_
        rintro e w' ⟨rfl, rfl⟩
        go_wp2_with fail
        go_ret
        exact ⟨ret_int (by rw [HF.out]), rfl⟩
      · have HF := Lib.hid (show spanTo p s (k + 1) = spanTo p s i from (spanTo_yes hlt hb).symm.trans HE.out)
        have hpk := HP.out s[k]
        rw [hb] at hpk
        have HK := Lib.hid hpk
        clear hpk hb
        go_wp2_with fail
        refine HK.out.mono ?_
        rintro e w' ⟨rfl, rfl⟩
        go_wp2_with fail
        go_round
        case rel => exact ⟨k + 1, by omega, HF.out, by go_num⟩
        case measure => simp [intOf]; omega
    · go_wp2_with fail
      go_ret
      exact ⟨ret_int (by rw [← HE.out, spanTo_stop hlt]), rfl⟩
end Go.Proofs.YtoephflcjllaaaaGreatDoor
/- Walks: keywords, quoted texts, faults. -/
namespace Go.Proofs.YtoephflcjllaaaaGreatDoor
open Go.RowKit

theorem keywords_eq : Bags.keywords = [[115, 101, 108, 101, 99, 116], [100, 105, 115, 116, 105, 110, 99, 116], [102, 114, 111, 109], [119, 104, 101, 114, 101], [103, 114, 111, 117, 112], [98, 121], [104, 97, 118, 105, 110, 103], [97, 115], [117, 110, 105, 111, 110], [105, 110, 116, 101, 114, 115, 101, 99, 116], [101, 120, 99, 101, 112, 116], [97, 108, 108], [97, 110, 121], [97, 110, 100], [111, 114], [110, 111, 116], [101, 120, 105, 115, 116, 115], [105, 110], [105, 115], [110, 117, 108, 108], [99, 111, 117, 110, 116], [115, 117, 109], [109, 105, 110], [109, 97, 120]] := by decide

set_option maxHeartbeats 1000000 in
theorem keyword_any (s : ByteArray) (w : World) :
    Calls Tryz.prog 73 #[.string s] w fun e w' => e = .returned (.bool (Bags.keywords.contains s.toList)) ∧ w = w' := by
  rw [keywords_eq]
  generalize hr : List.contains _ s.toList = r
  have HR := Lib.hid hr
  clear hr
  go_enter Tryz.func73, Tryz.ntmps73
  go_wp2
  all_goals
    go_ret
    refine ⟨ret_bool ?_, rfl⟩
    rw [← HR.out]
    simp only [List.contains_cons, *]
    first | rfl | simp_all | skip

/-- What is thrown: a fault of kind k, at a place. -/
def thrown (b : Nat) : List PanicEntry := [{ v := .iface 72 (.pointer (some ⟨b, 0, none⟩)), recovered := false }]

set_option maxHeartbeats 400000 in
theorem fault_any (k at_ : Int) (w : World) :
    Calls Tryz.prog 65 #[.int .i64 k, .int .i64 at_] w fun e w' => e = .panicked (thrown w.heap.size) ∧ w.alloc (.cells #[.int .i64 k, .int .i64 at_] 75) = w' := by
  go_enter Tryz.func65, Tryz.ntmps65
  go_wp2
  exact ⟨rfl, rfl, rfl⟩

theorem elem_bytes : Elem Tryz.prog 153 5 1 1 := ⟨Tryz.underlying153, by kernel_rfl, by decide⟩

/-- What quoted answers. -/
def quoRes (s : ByteArray) (i : Nat) : Value :=
  match Bags.quo ((bs s).drop (i + 1)) with
  | some (t, k) => .tuple #[.string (tx t), .int .i64 (i + 1 + k : Nat)]
  | none => .tuple #[.string (tx []), .int .i64 (-1)]
theorem quoRes_of {s : ByteArray} {i k : Nat} {acc : List UInt8} (h : Bags.quo ((bs s).drop (i + 1)) = (Bags.quo ((bs s).drop k)).map fun p => (acc ++ p.1, k - (i + 1) + p.2)) (hk : i + 1 ≤ k)
    {t : List UInt8} {n : Nat} (h2 : Bags.quo ((bs s).drop k) = some (t, n)) : quoRes s i = .tuple #[.string (tx (acc ++ t)), .int .i64 (k + n : Nat)] := by
  unfold quoRes
  rw [h, h2]
  simp only [Option.map_some]
  congr 5
  omega
theorem quoRes_none {s : ByteArray} {i k : Nat} {acc : List UInt8} (h : Bags.quo ((bs s).drop (i + 1)) = (Bags.quo ((bs s).drop k)).map fun p => (acc ++ p.1, k - (i + 1) + p.2))
    (h2 : Bags.quo ((bs s).drop k) = none) : quoRes s i = .tuple #[.string (tx []), .int .i64 (-1)] := by
  unfold quoRes
  rw [h, h2]; rfl
theorem quo_nil {s : ByteArray} {k : Nat} (h : ¬ k < s.size) : Bags.quo ((bs s).drop k) = none := by
  rw [drop_nil s k (by omega)]; rfl
theorem quo_line {s : ByteArray} {k : Nat} (h : k < s.size) (hc : s[k] = 10) : Bags.quo ((bs s).drop k) = none := by
  rw [drop_cons s k h]; unfold Bags.quo; rw [if_pos hc]
theorem quo_byte {s : ByteArray} {k : Nat} (h : k < s.size) (hc : s[k] ≠ 10) (hq : s[k] ≠ 39) : Bags.quo ((bs s).drop k) = (Bags.quo ((bs s).drop (k + 1))).map fun p => ([s[k]] ++ p.1, 1 + p.2) := by
  rw [drop_cons s k h]
  conv => lhs; unfold Bags.quo; rw [if_neg hc, if_neg hq]
  congr 1; funext p; simp [Nat.add_comm]
theorem quo_two {s : ByteArray} {k : Nat} (h : k + 1 < s.size) (hq : s[k] = 39) (hq' : s[k+1] = 39) : Bags.quo ((bs s).drop k) = (Bags.quo ((bs s).drop (k + 2))).map fun p => ([39] ++ p.1, 2 + p.2) := by
  rw [drop_cons s k (by omega), drop_cons s (k+1) h, hq, hq']
  rw [Bags.quo, if_neg (by decide), if_pos rfl]
  congr 1; funext p; simp [Nat.add_comm]
theorem quo_end {s : ByteArray} {k : Nat} (h : k < s.size) (hq : s[k] = 39) (hq' : ∀ h' : k + 1 < s.size, s[k+1] ≠ 39) : Bags.quo ((bs s).drop k) = some ([], 1) := by
  rw [drop_cons s k (by omega), hq]
  unfold Bags.quo
  rw [if_neg (by decide), if_pos rfl]
  split
  · rename_i r' e
    by_cases h1 : k + 1 < s.size
    · rw [drop_cons s (k+1) h1] at e
      injection e with e _
      exact absurd e (hq' h1)
    · rw [drop_nil s (k+1) (by omega)] at e
      cases e
  · rfl
theorem quo_acc {s : ByteArray} {i k j : Nat} {acc l : List UInt8} (h : Bags.quo ((bs s).drop (i + 1)) = (Bags.quo ((bs s).drop k)).map fun p => (acc ++ p.1, k - (i + 1) + p.2)) (hk : i + 1 ≤ k)
    (h2 : Bags.quo ((bs s).drop k) = (Bags.quo ((bs s).drop (k + j))).map fun p => (l ++ p.1, j + p.2)) :
    Bags.quo ((bs s).drop (i + 1)) = (Bags.quo ((bs s).drop (k + j))).map fun p => ((acc ++ l) ++ p.1, k + j - (i + 1) + p.2) := by
  rw [h, h2]
  cases Bags.quo ((bs s).drop (k + j)) with
  | none => rfl
  | some p => simp; omega
theorem u8_int {c d : UInt8} : ((c.toNat : Int) == (d.toNat : Int)) = decide (c = d) := by
  rw [Bool.eq_iff_iff]; simp [UInt8.toNat_inj.symm]; omega

set_option maxRecDepth 100000 in
set_option maxHeartbeats 1000000 in
theorem quoted_any (s : ByteArray) (i : Nat) (w : World) (hs : s.size ≤ 140737488351232) (hi : i < s.size) :
    Calls Tryz.prog 47 #[.string s, .int .i64 i] w fun e w' => e = .returned (quoRes s i) ∧ Below w.heap.size w w' := by
  go_enter Tryz.func47, Tryz.ntmps47
  go_wp2_with fail
  go_loopw [1, 6] (fun v b wr => ∃ k acc, i + 1 ≤ k ∧ k ≤ s.size + 1 ∧ v = .int .i64 (k : Nat) ∧ Bags.quo ((bs s).drop (i + 1)) = ((Bags.quo ((bs s).drop k)).map fun p => (acc ++ p.1, k - (i + 1) + p.2)) ∧
      wr.ownsRow w.heap.size 5 1 b acc.length (acc.map bv) ∧ acc.length ≤ k ∧ Below w.heap.size w wr) (fun v _ _ => s.size + 1 - (intOf v).toNat)
  case atStart => exact ⟨i + 1, [], Nat.le_refl _, by omega, by go_num, by simp, ⟨by simp, .inl ⟨rfl, rfl⟩⟩, by simp, Below.refl _ _⟩
  case round =>
    rename_i wr
    obtain ⟨k, acc, hk, hk2, rfl, hq, hown, hacc, hbl⟩ := hrel
    have HQ := Lib.hid hq
    have HB := Lib.hid hbl
    have hbs := hbl.size
    clear hq hbl
    by_cases hlt : k < s.size
    · by_cases h10 : s[k] = 10
      · have HN := Lib.hid (quoRes_none HQ.out (quo_line hlt h10))
        have t1 : ((s[k].toNat : Int) != 10) = false := by rw [h10]; rfl
        clear h10
        go_wp2_with fail
        go_ret2
        exact ⟨by rw [HN.out]; rfl, HB.out⟩
      · by_cases h39 : s[k] = 39
        · have t1 : ((s[k].toNat : Int) != 10) = true := by rw [h39]; rfl
          have t2 : ((s[k].toNat : Int) != 39) = false := by rw [h39]; rfl
          by_cases hk1 : k + 1 < s.size
          · by_cases h39' : s[k+1] = 39
            · have HQ2 := Lib.hid (quo_acc HQ.out hk (quo_two hk1 h39 h39'))
              have t3 : ((s[k+1].toNat : Int) == 39) = true := by rw [h39']; rfl
              clear h10 h39 h39'
              go_wp2_with (at_builtin; refine wpList_append_one rfl _ _ rfl (base := w.heap.size) elem_bytes rfl hown (cs := #[.int .u8 39]) rfl rfl rfl (by simp [Value.oneCell']) (by unfold maxLen; omega) (by omega) hbs ?_; intro b' w1 hown1 hb1 _ hz1)
              go_roundw
              case rel => exact ⟨k + 2, acc ++ [39], by omega, by omega, by go_num, HQ2.out, by simpa [bv] using hown1, by simp; omega, HB.out.trans hb1⟩
              case measure => simp [intOf]; omega
            · have HN := Lib.hid (quoRes_of HQ.out hk (quo_end hlt h39 (fun _ => h39')))
              have t3 : ((s[k+1].toNat : Int) == 39) = false := by
                have := @u8_int s[k+1] 39
                rw [show ((39 : UInt8).toNat : Int) = 39 from rfl] at this
                rw [this]; simpa using h39'
              have hcv := run_convert_own (P := Tryz.prog) (src := 153) (dst := 9) Tryz.underlying153 Tryz.underlying5 Tryz.underlying9 hown
              clear h10 h39 h39'
              go_wp2_with fail
              go_ret2
              exact ⟨by rw [HN.out]; simp [tx], HB.out⟩
          · have HN := Lib.hid (quoRes_of HQ.out hk (quo_end hlt h39 (fun h => absurd h hk1)))
            have hcv := run_convert_own (P := Tryz.prog) (src := 153) (dst := 9) Tryz.underlying153 Tryz.underlying5 Tryz.underlying9 hown
            clear h10 h39
            go_wp2_with fail
            go_ret2
            exact ⟨by rw [HN.out]; simp [tx], HB.out⟩
        · have HQ2 := Lib.hid (quo_acc HQ.out hk (quo_byte hlt h10 h39))
          have t1 : ((s[k].toNat : Int) != 10) = true := by
            have := @u8_int s[k] 10
            rw [show ((10 : UInt8).toNat : Int) = 10 from rfl] at this
            rw [bne, this]; simpa using h10
          have t2 : ((s[k].toNat : Int) != 39) = true := by
            have := @u8_int s[k] 39
            rw [show ((39 : UInt8).toNat : Int) = 39 from rfl] at this
            rw [bne, this]; simpa using h39
          clear h10 h39
          go_wp2_with (at_builtin; refine wpList_append_one rfl _ _ rfl (base := w.heap.size) elem_bytes rfl hown (cs := #[.int .u8 s[k].toNat]) rfl rfl rfl (by simp [Value.oneCell']) (by unfold maxLen; omega) (by omega) hbs ?_; intro b' w1 hown1 hb1 _ hz1)
          go_roundw
          case rel => exact ⟨k + 1, acc ++ [s[k]], by omega, by omega, by go_num, HQ2.out, by simpa [bv] using hown1, by simp; omega, HB.out.trans hb1⟩
          case measure => simp [intOf]; omega
    · have HN := Lib.hid (quoRes_none HQ.out (quo_nil hlt))
      go_wp2_with fail
      go_ret2
      exact ⟨by rw [HN.out]; rfl, HB.out⟩
end Go.Proofs.YtoephflcjllaaaaGreatDoor
