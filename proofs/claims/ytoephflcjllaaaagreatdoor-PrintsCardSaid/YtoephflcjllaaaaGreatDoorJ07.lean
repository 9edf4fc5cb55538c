/- Contracts of Go's library at this dump: strconv.FormatInt at base ten; written by the kit's lay-plain. -/
import Derived.Shelf.LaysM
import Derived.Shelf.Strconv.Itoa4
import Derived.Test.YtoephflcjllaaaaGreatDoorProg
import Derived.Test.YtoephflcjllaaaaGreatDoorJ06
import Derived.Test.YtoephflcjllaaaaGreatDoorJ03
import Derived.BigQuiet
namespace Go.Proofs
open Go.Shelf
def Tryz.laysM173_ren : Go.Shelf.Ren := ⟨fun | 173 => 218 | 246 => 150 | 283 => 151 | 284 => 152 | 285 => 153 | 286 => 154 | 129 => 156 | 317 => 155 | 318 => 157 | 319 => 158 | 320 => 159 | 337 => 160 | 338 => 161 | n => n, fun | 2 => 2 | 3 => 3 | 9 => 9 | 4 => 4 | 171 => 287 | 0 => 0 | 53 => 218 | 37 => 153 | 5 => 5 | 173 => 290 | 212 => 293 | 51 => 235 | 20 => 20 | 213 => 294 | 46 => 216 | 232 => 297 | 233 => 298 | n => n, fun | 17 => 6 | 18 => 7 | 19 => 8 | n => n⟩
theorem Tryz.laysM173 : Go.Proofs.LaysM.n173 Tryz.prog Tryz.laysM173_ren := {
  mixed := by kernel_rfl
  f129 := Tryz.func156.trans (congrArg some (by kernel_rfl))
  f173 := Tryz.func218.trans (congrArg some (by kernel_rfl))
  f246 := Tryz.func150.trans (congrArg some (by kernel_rfl))
  f283 := Tryz.func151.trans (congrArg some (by kernel_rfl))
  f284 := Tryz.func152.trans (congrArg some (by kernel_rfl))
  f285 := Tryz.func153.trans (congrArg some (by kernel_rfl))
  f286 := Tryz.func154.trans (congrArg some (by kernel_rfl))
  f317 := Tryz.func155.trans (congrArg some (by kernel_rfl))
  f318 := Tryz.func157.trans (congrArg some (by kernel_rfl))
  f319 := Tryz.func158.trans (congrArg some (by kernel_rfl))
  f320 := Tryz.func159.trans (congrArg some (by kernel_rfl))
  f337 := Tryz.func160.trans (congrArg some (by kernel_rfl))
  f338 := Tryz.func161.trans (congrArg some (by kernel_rfl))
  t0 := Tryz.underlying0
  a0 := Tryz.isAgg0
  z0 := Tryz.sizeOf0
  v0 := Tryz.zeroValue0
  t2 := Tryz.underlying2
  a2 := Tryz.isAgg2
  z2 := Tryz.sizeOf2
  v2 := Tryz.zeroValue2
  t3 := Tryz.underlying3
  a3 := Tryz.isAgg3
  z3 := Tryz.sizeOf3
  v3 := Tryz.zeroValue3
  t4 := Tryz.underlying4
  a4 := Tryz.isAgg4
  z4 := Tryz.sizeOf4
  v4 := Tryz.zeroValue4
  t5 := Tryz.underlying5
  a5 := Tryz.isAgg5
  z5 := Tryz.sizeOf5
  v5 := Tryz.zeroValue5
  t9 := Tryz.underlying9
  a9 := Tryz.isAgg9
  z9 := Tryz.sizeOf9
  v9 := Tryz.zeroValue9
  t20 := Tryz.underlying20
  a20 := Tryz.isAgg20
  z20 := Tryz.sizeOf20
  v20 := Tryz.zeroValue20
  t37 := Tryz.underlying153
  a37 := Tryz.isAgg153
  z37 := Tryz.sizeOf153
  v37 := Tryz.zeroValue153
  t46 := Tryz.underlying216
  a46 := Tryz.isAgg216
  z46 := Tryz.sizeOf216
  v46 := Tryz.zeroValue216
  t51 := Tryz.underlying235
  a51 := Tryz.isAgg235
  z51 := Tryz.sizeOf235
  v51 := Tryz.zeroValue235
  t53 := Tryz.underlying218
  a53 := Tryz.isAgg218
  z53 := Tryz.sizeOf218
  v53 := Tryz.zeroValue218
  t171 := Tryz.underlying287
  a171 := Tryz.isAgg287
  z171 := Tryz.sizeOf287
  v171 := Tryz.zeroValue287
  t173 := Tryz.underlying290
  a173 := Tryz.isAgg290
  z173 := Tryz.sizeOf290
  v173 := Tryz.zeroValue290
  t212 := Tryz.underlying293
  a212 := Tryz.isAgg293
  z212 := Tryz.sizeOf293
  v212 := Tryz.zeroValue293
  t213 := Tryz.underlying294
  a213 := Tryz.isAgg294
  z213 := Tryz.sizeOf294
  t232 := Tryz.underlying297
  a232 := Tryz.isAgg297
  z232 := Tryz.sizeOf297
  v232 := Tryz.zeroValue297
  t233 := Tryz.underlying298
  a233 := Tryz.isAgg298
  z233 := Tryz.sizeOf298
  v233 := Tryz.zeroValue298
  g17 := by kernel_rfl
  g18 := by kernel_rfl
  g19 := by kernel_rfl
  i0 := by kernel_rfl
  i2 := by kernel_rfl
  i3 := by kernel_rfl
  i4 := by kernel_rfl
  i5 := by kernel_rfl
  i9 := by kernel_rfl
  i20 := by kernel_rfl
  i37 := by kernel_rfl
  i46 := by kernel_rfl
  i51 := by kernel_rfl
  i53 := by kernel_rfl
  i171 := by kernel_rfl
  i173 := by kernel_rfl
  i212 := by kernel_rfl
  i232 := by kernel_rfl
  i233 := by kernel_rfl
  m17 := by kernel_rfl
  m18 := by kernel_rfl
  m19 := by kernel_rfl }
open Go.RowKit Go.Sort Go.Lib in
/-- strconv.FormatInt: "FormatInt returns the string representation of i in the given base": AT BASE 10: i's decimal numeral, for every int64. (LAID: no walk: one application.) -/
theorem Tryz.strconv_FormatInt_10 (n : Int) (h0 : -9223372036854775808 ≤ n) (h1 : n ≤ 9223372036854775807) (w : World) (htab : Lib.TabIs Tryz.prog w "internal/strconv.uint64pow10" .u64 Lib.pow10Tab) :
    Calls Tryz.prog 218 #[.int .i64 n, .int .i64 10] w fun e w' => e = .returned (.string ⟨(Lib.itoa n).toArray⟩) ∧ ∃ k os, w' = grow (w.drewN k) os := Any.strconv_FormatInt_10 Tryz.laysM173 n h0 h1 w htab
end Go.Proofs
/- The print methods of the program: literals, columns, small ones. -/
namespace Bags
theorem itoa_dec : ∀ n : Nat, Go.Lib.decDigits n = dec n := by
  intro n
  induction n using Nat.strongRecOn with
  | ind n ih =>
    rw [Go.Lib.decDigits, dec]
    by_cases h : n < 10
    · rw [dif_pos h, dif_pos h]
    · rw [dif_neg h, dif_neg h, ih (n / 10) (by omega)]
theorem itoa_int (n : Int) : Go.Lib.itoa n = decInt n := by
  unfold Go.Lib.itoa decInt
  split
  · rw [itoa_dec]
  · rw [itoa_dec]; congr 1; omega
def quo1 (c : UInt8) : Str := if c = 39 then [39, 39] else [c]
theorem quote_eq (s : Str) : quote s = 39 :: s.flatMap quo1 ++ [39] := rfl
end Bags
namespace Go.Proofs.YtoephflcjllaaaaGreatDoor
open Go.RowKit

/-- What is printed; what was there stands. -/
def PPost (w : World) (s : Bags.Str) : Ending → World → Prop := fun e w' => e = .returned (.string (tx s)) ∧ Fr (fun _ => False) w w'
theorem fr_drewN0 (w : World) (n : Nat) : Fr (fun _ => False) w (w.drewN n) := ⟨rfl, rfl, rfl, Nat.le_refl _, fun _ _ _ => rfl⟩
theorem tx_add (a b : Bags.Str) : tx a ++ tx b = tx (a ++ b) := by
  simp [tx, ByteArray.ext_iff]

set_option maxRecDepth 100000 in
set_option maxHeartbeats 1000000 in
theorem columnP_any (o n : Bags.Str) (b : Nat) (w : World) (h : Blk w b 229 #[.string (tx o), .string (tx n)]) (hl : o.length + n.length ≤ 281474976710656) :
    Calls Tryz.prog 208 #[.pointer (some ⟨b, 0, none⟩)] w (PPost w (Bags.T.col o n).print) := by
  have c0 := h.cell 0
  have c1 := h.cell 1
  simp at c0 c1
  have hz1 : (tx o).size = o.length := by simp [tx, ByteArray.size]
  have hz2 : (tx n).size = n.length := by simp [tx, ByteArray.size]
  by_cases ho : o = []
  · have t1 : (!(tx o).toList.isEmpty) = false := by rw [ho]; simp [tx, ByteArray.toList_eq]
    have HO := Lib.hid ho
    clear ho
    go_enter Tryz.func208, Tryz.ntmps208
    go_wp2_with fail
    go_ret
    exact ⟨by simp [Bags.T.print, HO.out], Fr.refl _ _⟩
  · have t1 : (!(tx o).toList.isEmpty) = true := by
      cases o with
      | nil => exact absurd rfl ho
      | cons a l => simp [tx, ByteArray.toList_eq]
    have HO := Lib.hid ho
    clear ho
    go_enter Tryz.func208, Tryz.ntmps208
    go_wp2_with fail
    go_quiet (fail)
    go_wp2_with fail
    go_ret
    refine ⟨congrArg (fun x => Ending.returned (.string x)) ?_, fr_drewN0 _ _⟩
    rw [show (⟨#[46]⟩ : ByteArray) = tx (Bags.str ".") from rfl, tx_add, tx_add]
    simp [Bags.T.print, HO.out]

def wd (n : Bool) : Bags.Str := if n then [110, 111, 116, 32] else []
theorem wd_len (n : Bool) : (wd n).length ≤ 4 := by cases n <;> simp [wd]
set_option maxRecDepth 100000 in
set_option maxHeartbeats 1000000 in
theorem word_any (b : Nat) (n : Bool) (w : World) (h : w.cell? ⟨b, 1, none⟩ = some (.bool n)) :
    Calls Tryz.prog 223 #[.pointer (some ⟨b, 0, none⟩)] w fun e w' => e = .returned (.string (tx (wd n))) ∧ w' = w := by
  cases n
  all_goals
    go_enter Tryz.func223, Tryz.ntmps223
    go_wp2_with fail
    go_ret
    exact ⟨rfl, rfl⟩

set_option maxRecDepth 100000 in
set_option maxHeartbeats 1000000 in
theorem null_any (w : World) : Calls Tryz.prog 186 #[.agg #[]] w (PPost w (Bags.str "null")) := by
  go_enter Tryz.func186, Tryz.ntmps186
  go_wp2_with fail
  go_ret
  exact ⟨rfl, (Fr.refl _ _).alloc _⟩

set_option maxRecDepth 100000 in
set_option maxHeartbeats 1000000 in
theorem int_any (n : Int) (h0 : -9223372036854775808 ≤ n) (h1 : n ≤ 9223372036854775807) (w : World) (htab : Lib.TabIs Tryz.prog w "internal/strconv.uint64pow10" .u64 Lib.pow10Tab) :
    Calls Tryz.prog 188 #[.int .i64 n] w (PPost w (Bags.decInt n)) := by
  have HF := Lib.hid (Tryz.strconv_FormatInt_10 n h0 h1 w htab)
  go_enter Tryz.func188, Tryz.ntmps188
  go_wp2_with (go_at_call 218; refine (HF.out).mono ?_; rintro e w' ⟨rfl, k, os, rfl⟩)
  go_ret
  refine ⟨congrArg (fun x => Ending.returned (.string x)) ?_, ?_⟩
  · rw [Bags.itoa_int]; rfl
  · exact ⟨rfl, rfl, rfl, by simp [Sort.grow, World.drewN], fun j hj _ => Sort.heap_grow_old (w.drewN k) os hj⟩

theorem u8_39 (c : UInt8) : ((c.toNat : Int) == 39) = decide (c = 39) := u8_int (d := 39)
theorem quo1_len (s : Bags.Str) : (s.flatMap Bags.quo1).length ≤ 2 * s.length := by
  induction s with
  | nil => simp
  | cons c s ih =>
    have : (Bags.quo1 c).length ≤ 2 := by unfold Bags.quo1; split <;> simp
    rw [List.flatMap_cons, List.length_append, List.length_cons]; omega
theorem take_quo {s : ByteArray} {k : Nat} (h : k < s.size) : ((bs s).take (k + 1)).flatMap Bags.quo1 = ((bs s).take k).flatMap Bags.quo1 ++ Bags.quo1 s[k] := by
  have h' : k < (bs s).length := by rw [bs_length]; exact h
  rw [List.take_succ_eq_append_getElem h', List.flatMap_append]
  simp [bs]
  rfl
theorem own_39 {w : World} {B : Nat} {t : TypeId} {v : Value} {l : List UInt8} (h : w.ownsRow B t 1 v (l.length + 1) (l.map bv ++ #[Value.int .u8 39].toList)) : w.ownsRow B t 1 v (l ++ [39]).length ((l ++ [39]).map bv) := by
  simpa [bv] using h
set_option maxRecDepth 100000 in
set_option maxHeartbeats 1000000 in
theorem text_any (s : ByteArray) (w : World) (hs : s.size ≤ 1099511627776) :
    Calls Tryz.prog 187 #[.string s] w (PPost w (Bags.quote (bs s))) := by
  go_enter Tryz.func187, Tryz.ntmps187
  go_wp2_with fail
  go_loopw [3, 4] (fun b v wr => ∃ k : Nat, k ≤ s.size ∧ v = .int .i64 (k : Nat) ∧ wr.ownsRow w.heap.size 5 1 b (39 :: ((bs s).take k).flatMap Bags.quo1).length ((39 :: ((bs s).take k).flatMap Bags.quo1).map bv) ∧ Below w.heap.size w wr) (fun _ v _ => s.size - (intOf v).toNat)
  case atStart => exact ⟨0, by omega, rfl, ⟨by simp, .inr ⟨_, 1, _, rfl, Nat.le_refl _, Blk.made _ _ _, by simp, by unfold maxLen; decide, by simp, by simp [bv]⟩⟩, (Below.refl _ _).alloc (Nat.le_refl _) _⟩
  case round =>
    rename_i wr
    obtain ⟨k, hk, rfl, hown, hbl⟩ := hrel
    have HB := Lib.hid hbl
    have hbs := hbl.size
    have hlen : (39 :: ((bs s).take k).flatMap Bags.quo1).length ≤ 2 * k + 1 := by
      have := quo1_len ((bs s).take k)
      rw [List.length_take, Nat.min_eq_left (by rw [bs_length]; exact hk)] at this
      rw [List.length_cons]; omega
    clear hbl
    by_cases hlt : k < s.size
    · have HQ := Lib.hid (take_quo hlt)
      generalize hacc : ((bs s).take k).flatMap Bags.quo1 = acc at *
      have HACC := Lib.hid hacc
      clear hacc
      by_cases h39 : s[k] = 39
      · have t1 : ((s[k].toNat : Int) == 39) = true := by rw [h39]; rfl
        have h392 : s[k].toNat = 39 := by rw [h39]; rfl
        have HQ2 := Lib.hid (show Bags.quo1 s[k] = [39, 39] by rw [h39]; rfl)
        clear h39
        go_wp2_with (at_builtin; first | (refine wpList_append_one rfl _ _ rfl (base := w.heap.size) elem_bytes rfl hown (cs := #[.int .u8 39]) rfl rfl rfl (by simp [Value.oneCell']) (by unfold maxLen; omega) (by omega) hbs ?_; intro b' w1 hown1 hb1 _ hz1) | (refine wpList_append_one rfl _ _ rfl (base := w.heap.size) elem_bytes rfl hown1 (cs := #[.int .u8 39]) rfl rfl rfl (by simp [Value.oneCell']) (by unfold maxLen; omega) (by omega) (by omega) ?_; intro b'' w2 hown2 hb2 _ hz2))
        go_roundw
        case rel => exact ⟨k + 1, by omega, by go_num, by rw [HQ.out, HQ2.out]; simpa [bv, h392] using hown2, (HB.out.trans hb1).trans hb2⟩
        case measure => simp [intOf]; omega
      · have t1 : ((s[k].toNat : Int) == 39) = false := by rw [u8_39]; simpa using h39
        have HQ2 := Lib.hid (show Bags.quo1 s[k] = [s[k]] by unfold Bags.quo1; rw [if_neg h39])
        clear h39
        go_wp2_with (at_builtin; refine wpList_append_one rfl _ _ rfl (base := w.heap.size) elem_bytes rfl hown (cs := #[.int .u8 s[k].toNat]) rfl rfl rfl (by simp [Value.oneCell']) (by unfold maxLen; omega) (by omega) hbs ?_; intro b' w1 hown1 hb1 _ hz1)
        go_roundw
        case rel => exact ⟨k + 1, by omega, by go_num, by rw [HQ.out, HQ2.out]; simpa [bv] using hown1, HB.out.trans hb1⟩
        case measure => simp [intOf]; omega
    · obtain rfl : k = s.size := by omega
      have HT := Lib.hid (show (bs s).take s.size = bs s by rw [← bs_length]; exact List.take_length)
      generalize hacc : (39 :: ((bs s).take s.size).flatMap Bags.quo1) = acc at *
      have HACC := Lib.hid hacc
      clear hacc
      go_wp2_with (at_builtin; refine wpList_append_one rfl _ _ rfl (base := w.heap.size) elem_bytes rfl hown (cs := #[.int .u8 39]) rfl rfl rfl (by simp [Value.oneCell']) (by unfold maxLen; omega) (by omega) hbs ?_; intro b' w1 hown1 hb1 _ hz1; have hown2 := own_39 hown1; have hcv := run_convert_own (P := Tryz.prog) (src := 153) (dst := 9) Tryz.underlying153 Tryz.underlying5 Tryz.underlying9 hown2)
      go_ret
      refine ⟨congrArg (fun x => Ending.returned (.string (tx x))) ?_, Fr.of_below (HB.out.trans hb1)⟩
      rw [← HACC.out, HT.out]
      rfl

/-- What stands behind an interface value: its method print prints s, wherever what stood in w still stands. -/
def Prn (w : World) (x : Value) (s : Bags.Str) : Prop :=
  ∃ tp v f u, x = .iface tp v ∧ (∀ W, (Go.nilAhead 441 tp v "bags/bags.print").run Tryz.prog W = .ok (some false) W) ∧ (∀ W, (Go.method 441 tp v "bags/bags.print").run Tryz.prog W = .ok (f, u) W) ∧
    (∀ args W, (callFunc f args).run Tryz.prog W = .ok (.enter f args) W) ∧ ∀ W, Fr (fun _ => False) w W → Calls Tryz.prog f #[u] W (PPost W s)

set_option maxRecDepth 100000 in
set_option maxHeartbeats 1000000 in
theorem literal_any (tp : TypeId) (v : Value) (s : Bags.Str) (f : FuncId) (b : Nat) (w : World) (h : Blk w b 261 #[.iface tp v])
    (hm : ∀ W, (Go.method 441 tp v "Written").run Tryz.prog W = .ok (f, v) W) (hin : ∀ args W, (callFunc f args).run Tryz.prog W = .ok (.enter f args) W) (hc : Calls Tryz.prog f #[v] w (PPost w s)) :
    Calls Tryz.prog 217 #[.pointer (some ⟨b, 0, none⟩)] w (PPost w s) := by
  have c0 := h.cell 0
  simp at c0
  have HC := Lib.hid hc
  clear hc h
  go_enter Tryz.func217, Tryz.ntmps217
  go_wp2_with fail
  refine (HC.out).mono ?_
  rintro e w' ⟨rfl, hF⟩
  go_wp2_with fail
  go_ret
  exact ⟨rfl, hF⟩

theorem m_int (v : Value) (W : World) : (Go.method 441 159 v "Written").run Tryz.prog W = .ok (188, v) W := by kernel_rfl
theorem m_text (v : Value) (W : World) : (Go.method 441 156 v "Written").run Tryz.prog W = .ok (187, v) W := by kernel_rfl
theorem m_null (v : Value) (W : World) : (Go.method 441 155 v "Written").run Tryz.prog W = .ok (186, v) W := by kernel_rfl
theorem in_int (args : Array Value) (W : World) : (callFunc 188 args).run Tryz.prog W = .ok (.enter 188 args) W := by kernel_rfl
theorem in_text (args : Array Value) (W : World) : (callFunc 187 args).run Tryz.prog W = .ok (.enter 187 args) W := by kernel_rfl
theorem in_null (args : Array Value) (W : World) : (callFunc 186 args).run Tryz.prog W = .ok (.enter 186 args) W := by kernel_rfl
theorem n_literal (a : Addr) (W : World) : (Go.nilAhead 441 259 (.pointer (some a)) "bags/bags.print").run Tryz.prog W = .ok (some false) W := by kernel_rfl
theorem p_literal (a : Addr) (W : World) : (Go.method 441 259 (.pointer (some a)) "bags/bags.print").run Tryz.prog W = .ok (217, .pointer (some a)) W := by kernel_rfl
theorem i_literal (args : Array Value) (W : World) : (callFunc 217 args).run Tryz.prog W = .ok (.enter 217 args) W := by kernel_rfl
theorem n_column (a : Addr) (W : World) : (Go.nilAhead 441 211 (.pointer (some a)) "bags/bags.print").run Tryz.prog W = .ok (some false) W := by kernel_rfl
theorem p_column (a : Addr) (W : World) : (Go.method 441 211 (.pointer (some a)) "bags/bags.print").run Tryz.prog W = .ok (208, .pointer (some a)) W := by kernel_rfl
theorem i_column (args : Array Value) (W : World) : (callFunc 208 args).run Tryz.prog W = .ok (.enter 208 args) W := by kernel_rfl
theorem n_negation (a : Addr) (W : World) : (Go.nilAhead 441 256 (.pointer (some a)) "bags/bags.print").run Tryz.prog W = .ok (some false) W := by kernel_rfl
theorem p_negation (a : Addr) (W : World) : (Go.method 441 256 (.pointer (some a)) "bags/bags.print").run Tryz.prog W = .ok (216, .pointer (some a)) W := by kernel_rfl
theorem i_negation (args : Array Value) (W : World) : (callFunc 216 args).run Tryz.prog W = .ok (.enter 216 args) W := by kernel_rfl
theorem n_aggregate (a : Addr) (W : World) : (Go.nilAhead 441 262 (.pointer (some a)) "bags/bags.print").run Tryz.prog W = .ok (some false) W := by kernel_rfl
theorem p_aggregate (a : Addr) (W : World) : (Go.method 441 262 (.pointer (some a)) "bags/bags.print").run Tryz.prog W = .ok (219, .pointer (some a)) W := by kernel_rfl
theorem i_aggregate (args : Array Value) (W : World) : (callFunc 219 args).run Tryz.prog W = .ok (.enter 219 args) W := by kernel_rfl
theorem n_inverse (a : Addr) (W : World) : (Go.nilAhead 441 244 (.pointer (some a)) "bags/bags.print").run Tryz.prog W = .ok (some false) W := by kernel_rfl
theorem p_inverse (a : Addr) (W : World) : (Go.method 441 244 (.pointer (some a)) "bags/bags.print").run Tryz.prog W = .ok (213, .pointer (some a)) W := by kernel_rfl
theorem i_inverse (args : Array Value) (W : World) : (callFunc 213 args).run Tryz.prog W = .ok (.enter 213 args) W := by kernel_rfl
theorem n_exists (a : Addr) (W : World) : (Go.nilAhead 441 270 (.pointer (some a)) "bags/bags.print").run Tryz.prog W = .ok (some false) W := by kernel_rfl
theorem p_exists (a : Addr) (W : World) : (Go.method 441 270 (.pointer (some a)) "bags/bags.print").run Tryz.prog W = .ok (221, .pointer (some a)) W := by kernel_rfl
theorem i_exists (args : Array Value) (W : World) : (callFunc 221 args).run Tryz.prog W = .ok (.enter 221 args) W := by kernel_rfl
theorem n_isNull (a : Addr) (W : World) : (Go.nilAhead 441 273 (.pointer (some a)) "bags/bags.print").run Tryz.prog W = .ok (some false) W := by kernel_rfl
theorem p_isNull (a : Addr) (W : World) : (Go.method 441 273 (.pointer (some a)) "bags/bags.print").run Tryz.prog W = .ok (222, .pointer (some a)) W := by kernel_rfl
theorem i_isNull (args : Array Value) (W : World) : (callFunc 222 args).run Tryz.prog W = .ok (.enter 222 args) W := by kernel_rfl
theorem n_within (a : Addr) (W : World) : (Go.nilAhead 441 278 (.pointer (some a)) "bags/bags.print").run Tryz.prog W = .ok (some false) W := by kernel_rfl
theorem p_within (a : Addr) (W : World) : (Go.method 441 278 (.pointer (some a)) "bags/bags.print").run Tryz.prog W = .ok (224, .pointer (some a)) W := by kernel_rfl
theorem i_within (args : Array Value) (W : World) : (callFunc 224 args).run Tryz.prog W = .ok (.enter 224 args) W := by kernel_rfl
theorem n_comparison (a : Addr) (W : World) : (Go.nilAhead 441 284 (.pointer (some a)) "bags/bags.print").run Tryz.prog W = .ok (some false) W := by kernel_rfl
theorem p_comparison (a : Addr) (W : World) : (Go.method 441 284 (.pointer (some a)) "bags/bags.print").run Tryz.prog W = .ok (226, .pointer (some a)) W := by kernel_rfl
theorem i_comparison (args : Array Value) (W : World) : (callFunc 226 args).run Tryz.prog W = .ok (.enter 226 args) W := by kernel_rfl
theorem n_quantified (a : Addr) (W : World) : (Go.nilAhead 441 281 (.pointer (some a)) "bags/bags.print").run Tryz.prog W = .ok (some false) W := by kernel_rfl
theorem p_quantified (a : Addr) (W : World) : (Go.method 441 281 (.pointer (some a)) "bags/bags.print").run Tryz.prog W = .ok (225, .pointer (some a)) W := by kernel_rfl
theorem i_quantified (args : Array Value) (W : World) : (callFunc 225 args).run Tryz.prog W = .ok (.enter 225 args) W := by kernel_rfl
theorem n_selection (a : Addr) (W : World) : (Go.nilAhead 441 193 (.pointer (some a)) "bags/bags.print").run Tryz.prog W = .ok (some false) W := by kernel_rfl
theorem p_selection (a : Addr) (W : World) : (Go.method 441 193 (.pointer (some a)) "bags/bags.print").run Tryz.prog W = .ok (201, .pointer (some a)) W := by kernel_rfl
theorem i_selection (args : Array Value) (W : World) : (callFunc 201 args).run Tryz.prog W = .ok (.enter 201 args) W := by kernel_rfl

theorem n_arithmetic (b : Nat) (W : World) : (Go.nilAhead 441 265 (.pointer (some ⟨b, 0, none⟩)) "bags/bags.print").run Tryz.prog W = .ok (some false) W := by kernel_rfl
theorem p_arithmetic (b : Nat) (W : World) : (Go.method 441 265 (.pointer (some ⟨b, 0, none⟩)) "bags/bags.print").run Tryz.prog W = .ok (220, .pointer (some ⟨b, 0, none⟩)) W := by kernel_rfl
theorem i_arithmetic (args : Array Value) (W : World) : (callFunc 220 args).run Tryz.prog W = .ok (.enter 220 args) W := by kernel_rfl
theorem n_junction (b : Nat) (W : World) : (Go.nilAhead 441 247 (.pointer (some ⟨b, 0, none⟩)) "bags/bags.print").run Tryz.prog W = .ok (some false) W := by kernel_rfl
theorem p_junction (b : Nat) (W : World) : (Go.method 441 247 (.pointer (some ⟨b, 0, none⟩)) "bags/bags.print").run Tryz.prog W = .ok (214, .pointer (some ⟨b, 0, none⟩)) W := by kernel_rfl
theorem i_junction (args : Array Value) (W : World) : (callFunc 214 args).run Tryz.prog W = .ok (.enter 214 args) W := by kernel_rfl
theorem n_combined (b : Nat) (W : World) : (Go.nilAhead 441 179 (.pointer (some ⟨b, 0, none⟩)) "bags/bags.print").run Tryz.prog W = .ok (some false) W := by kernel_rfl
theorem p_combined (b : Nat) (W : World) : (Go.method 441 179 (.pointer (some ⟨b, 0, none⟩)) "bags/bags.print").run Tryz.prog W = .ok (200, .pointer (some ⟨b, 0, none⟩)) W := by kernel_rfl
theorem i_combined (args : Array Value) (W : World) : (callFunc 200 args).run Tryz.prog W = .ok (.enter 200 args) W := by kernel_rfl
end Go.Proofs.YtoephflcjllaaaaGreatDoor
