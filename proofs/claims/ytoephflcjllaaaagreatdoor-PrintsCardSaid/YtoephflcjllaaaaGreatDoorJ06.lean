/- Walks: tries, inBrackets. -/
import Derived.Test.YtoephflcjllaaaaGreatDoorJ05
import Derived.Defers
import Derived.Recover
import Derived.Laws.Pointers
namespace Go.Proofs.YtoephflcjllaaaaGreatDoor
open Go.RowKit

def missMet (r : Bool) : PanicEntry := { v := .iface 176 (.agg #[]), recovered := r }

set_option maxRecDepth 100000 in
set_option maxHeartbeats 1000000 in
theorem tries_catch {p2 p4 p5 : Nat} {r i : Nat} {b : Bool} {x : Value} {t2 t4 t5 : TypeId} {h0 : Value} (w : World) (b5 : Blk w p5 t5 #[.int .i64 i]) (b2 : Blk w p2 t2 #[.pointer (some ⟨r, 0, none⟩)]) (b4 : Blk w p4 t4 #[.bool b])
    (br : Blk w r 144 #[h0, x]) :
    CallsD Tryz.prog 80 #[.pointer (some ⟨p5, 0, none⟩), .pointer (some ⟨p2, 0, none⟩), .pointer (some ⟨p4, 0, none⟩)] (.panicking [missMet false]) w fun e u' w' =>
      e = .returned (.tuple #[]) ∧ u' = .panicking [missMet true] ∧ w' = ((w.setCell ⟨r, 1, none⟩ (.int .i64 i)).setCell ⟨p4, 0, none⟩ (.bool false)).alloc (.cells #[] 176) := by
  have hta : ∀ w, (Instr.typeAssert (.iface 176 (.agg #[])) 20 176 true).run Tryz.prog w = .ok (.tuple #[.agg #[], .bool true]) w := fun _ => by kernel_rfl
  have hnot : ∀ (x : Bool) (w : World), (Op.unary .not (.bool x)).run Tryz.prog w = .ok (.bool (!x)) w := fun _ _ => rfl
  have c5 := b5.cell 0
  have c2 := b2.cell 0
  have c4 := b4.cell 0
  have cr := br.cell 1
  have g4 := b4.free 0
  have gr := br.free 1
  have l5 := b5.lt
  have l2 := b2.lt
  have l4 := b4.lt
  have lr := br.lt
  simp at c5 c2 c4 cr
  refine callsD_of_wpS Tryz.func80 rfl fun c₀ cs hu => ?_
  apply wpS_seq
  apply wpS_region
  simp [wpOpsS, go_sem, recoverD, hu, Tryz.ntmps80, Exit.thenS, missMet]
  refine wpS_of_wp ?_
  simp only [Array.replicate, List.replicate, List.setIfInBounds_toArray, List.set_cons_zero, List.set_cons_succ, List.append_toArray, List.cons_append, List.nil_append]
  go_wp2
  simp [bodyPostS, results, Tryz.results80]

set_option maxRecDepth 100000 in
theorem tries_idle {a b c : Value} (w : World) : CallsD Tryz.prog 80 #[a, b, c] .returning w fun e u' w' => e = .returned (.tuple #[]) ∧ u' = .returning ∧ w' = w := by
  refine callsD_of_wpS Tryz.func80 rfl fun c₀ cs hu => ?_
  apply wpS_seq
  apply wpS_region
  simp [wpOpsS, go_sem, recoverD, hu, Tryz.ntmps80, Exit.thenS]
  refine wpS_of_wp ?_
  simp only [Array.replicate, List.replicate, List.setIfInBounds_toArray, List.set_cons_zero, List.set_cons_succ, List.append_toArray, List.cons_append, List.nil_append]
  go_wp2
  cases c₀
  simp_all [bodyPostS, results, Tryz.results80]

/-- What a part of the reader does: it comes to word j with a value, or it misses. -/
def Does (S : Nat → Prop) (r A : Nat) (ws : List Bags.W) (o : Option Nat) (V : Value → World → Prop) (w : World) (e : Ending) (w' : World) : Prop :=
  Fr S w w' ∧ match o with
    | none => e = .panicked missed ∧ ∃ j, Rdr w' r A ws j
    | some j => (∃ x, e = .returned x ∧ V x w') ∧ Rdr w' r A ws j

theorem results_cell1 {P : Program} {fn : Func} {p : Tmp} {ty : TypeId} (h : fn.results = #[.cell p ty]) (tmps : Array Value) (w : World) (g : Nat) (t : TypeId) (v : Value) (d : TypeDesc)
    (hp : tmps.getD p undef = .pointer (some ⟨g, 0, none⟩)) (hb : Blk w g t #[v]) (hu : P.underlying ty = some d) (hd : (match d with | .struct _ | .array _ _ => true | _ => false) = false) :
    (results fn tmps).run P w = .ok v w := by
  have hp' : tmps[p]?.getD undef = .pointer (some ⟨g, 0, none⟩) := by simpa using hp
  have hagg : (isAgg ty).run P w = .ok false w := by
    unfold isAgg
    rw [Sem.run_bind, run_underlying hu w]
    cases d <;> simp_all
  have hc : w.cell? ⟨g, 0, none⟩ = some v := by simpa using hb.cell 0
  simp [results, h, hp', asAddr, loadVar, Sem.run_bind, hagg, go_sem, hc]

set_option maxRecDepth 100000 in
set_option maxHeartbeats 1000000 in
theorem tries_no {r A : Nat} {ws : List Bags.W} {i : Nat} {w : World} (hr : Rdr w r A ws i) {F : FuncId} {first cap : Array Value} {S : Nat → Prop} (hS : ∀ k, S k → k < w.heap.size) (hSr : S r)
    (hent : ∀ (args : Array Value) (w : World), (callFunc F args).run Tryz.prog w = .ok (.enter F args) w)
    {V : Value → World → Prop} {I : World → Prop} (hF : ∀ W, Below w.heap.size w W → W.heap.size = w.heap.size + 3 → Calls Tryz.prog F (first ++ cap) W fun e w' => Does S r A ws none V W e w' ∧ I w') :
    Calls Tryz.prog 61 #[.pointer (some ⟨r, 0, none⟩), .func (.func F) first cap] w fun e w' => e = .returned (.bool false) ∧ Rdr w' r A ws i ∧ Fr S w w' ∧ ∃ w1, I w1 ∧ Fr (fun k => k = r ∨ k = w.heap.size + 1) w1 w' := by
  have hmf : ∀ (fn : Fn) (first cap : Array Value) (w : World), (Instr.makeFunc fn first cap).run Tryz.prog w = .ok (.func fn first cap) w := fun _ _ _ _ => rfl
  have hlt := hr.lt
  have hltA := hr.ltA
  obtain ⟨cp, hb, hl, hc⟩ := hr.cells
  have c0 := hb.cell 0
  have c1 := hb.cell 1
  simp at c0 c1
  have k0 := fun o => cell_alloc c0 o
  have k1 := fun o => cell_alloc c1 o
  have HF := Lib.hid hF
  have HS := Lib.hid hS
  have HR := Lib.hid hr
  clear hF hr hc hb hl hS
  go_enter_defers Tryz.func61, Tryz.ntmps61
  go_wp2
  have hB : Below w.heap.size w (((w.alloc (.cells #[.pointer (some ⟨r, 0, none⟩)] 140)).alloc (.cells #[.bool false] 4)).alloc (.cells #[.int .i64 i] 3)) :=
    (((Below.refl _ _).alloc (Nat.le_refl _) _).alloc (by simp) _).alloc (by simp; omega) _
  refine (HF.out _ hB (by simp)).mono ?_
  rintro e w' ⟨⟨hfr, rfl, j, hj⟩, hI⟩
  have b2 : Blk w' w.heap.size 140 _ := (((Blk.made w 140 #[.pointer (some ⟨r, 0, none⟩)]).alloc _).alloc _).fr hfr (fun h => Nat.lt_irrefl _ (HS.out _ h))
  have b4 : Blk w' (w.heap.size + 1) 4 #[.bool false] := ((Blk.made' (by simp) 4 #[.bool false]).alloc _).fr hfr (fun h => by have := HS.out _ h; omega)
  have b5 : Blk w' (w.heap.size + 1 + 1) 3 #[.int .i64 i] := (Blk.made' (by simp) 3 #[.int .i64 i]).fr hfr (fun h => by have := HS.out _ h; omega)
  obtain ⟨cp', hb', -⟩ := hj.cells
  refine leaves_cons (f := 80) (args := #[.pointer (some ⟨w.heap.size + 1 + 1, 0, none⟩), .pointer (some ⟨w.heap.size, 0, none⟩), .pointer (some ⟨w.heap.size + 1, 0, none⟩)]) (by simp) (by simp [go_sem]) ?_
  refine (tries_catch w' b5 b2 b4 hb').mono ?_
  rintro e u' w'' ⟨rfl, rfl, rfl⟩
  have hlt' := hj.lt
  have hltA' := hj.ltA
  have hsz := hfr.size
  simp only [World.size_alloc] at hsz
  have hne : ¬ w.heap.size + 1 = r := by omega
  have hput := ((b4.far (p := ⟨r, 1, none⟩) hne (.int .i64 i)).put 0 (.bool false)).alloc (.cells #[] 176)
  refine ⟨.bool false, results_cell1 rfl _ _ (w.heap.size + 1) 4 _ _ rfl hput rfl rfl, rfl, ?_, ?_, w', hI, (((Fr.refl _ w').set (p := ⟨r, 1, none⟩) (.inr (.inl rfl)) _).set (p := ⟨w.heap.size + 1, 0, none⟩) (.inr (.inr rfl)) _).alloc _⟩
  · exact ((hj.set i).fr (((Fr.refl (· = w.heap.size + 1) _).set (p := ⟨w.heap.size + 1, 0, none⟩) (.inr rfl) (.bool false)).alloc (.cells #[] 176)) (by omega) (by omega))
  · exact ((((Fr.of_below hB).trans hfr (fun _ _ h => h)).set (.inr hSr) _).set (.inl (by simp)) _).alloc _

set_option maxRecDepth 100000 in
set_option maxHeartbeats 1000000 in
theorem tries_yes {r A : Nat} {ws : List Bags.W} {i j : Nat} {w : World} (hr : Rdr w r A ws i) {F : FuncId} {first cap : Array Value} {S : Nat → Prop} (hS : ∀ k, S k → k < w.heap.size)
    (hent : ∀ (args : Array Value) (w : World), (callFunc F args).run Tryz.prog w = .ok (.enter F args) w)
    {V : Value → World → Prop} (hF : ∀ W, Below w.heap.size w W → W.heap.size = w.heap.size + 3 → Calls Tryz.prog F (first ++ cap) W fun e w' => Does S r A ws (some j) V W e w') :
    Calls Tryz.prog 61 #[.pointer (some ⟨r, 0, none⟩), .func (.func F) first cap] w fun e w' => e = .returned (.bool true) ∧ Rdr w' r A ws j ∧ Fr S w w' ∧ ∃ x w1, V x w1 ∧ Fr (· = w.heap.size + 1) w1 w' ∧ w.heap.size + 3 ≤ w1.heap.size := by
  have hmf : ∀ (fn : Fn) (first cap : Array Value) (w : World), (Instr.makeFunc fn first cap).run Tryz.prog w = .ok (.func fn first cap) w := fun _ _ _ _ => rfl
  have hlt := hr.lt
  have hltA := hr.ltA
  obtain ⟨cp, hb, hl, hc⟩ := hr.cells
  have c0 := hb.cell 0
  have c1 := hb.cell 1
  simp at c0 c1
  have k0 := fun o => cell_alloc c0 o
  have k1 := fun o => cell_alloc c1 o
  have HF := Lib.hid hF
  have HS := Lib.hid hS
  have HR := Lib.hid hr
  clear hF hr hc hb hl hS
  go_enter_defers Tryz.func61, Tryz.ntmps61
  go_wp2
  have hB : Below w.heap.size w (((w.alloc (.cells #[.pointer (some ⟨r, 0, none⟩)] 140)).alloc (.cells #[.bool false] 4)).alloc (.cells #[.int .i64 i] 3)) :=
    (((Below.refl _ _).alloc (Nat.le_refl _) _).alloc (by simp) _).alloc (by simp; omega) _
  refine (HF.out _ hB (by simp)).mono ?_
  rintro e w' ⟨hfr, ⟨x, rfl, hV⟩, hj⟩
  have b4 : Blk w' (w.heap.size + 1) 4 #[.bool false] := ((Blk.made' (by simp) 4 #[.bool false]).alloc _).fr hfr (fun h => by have := HS.out _ h; omega)
  have f4 := b4.free 0
  have c4 := b4.cell 0
  have l4 := b4.lt
  simp at c4
  have hlt' := hj.lt
  have hltA' := hj.ltA
  have hsz := hfr.size
  simp only [World.size_alloc] at hsz
  have HV := Lib.hid hV
  have HFR := Lib.hid hfr
  have HJ := Lib.hid hj
  have hput := b4.put 0 (.bool true)
  have HPUT := Lib.hid hput
  clear hV hfr hj hput b4
  go_wp2
  refine leaves_cons (f := 80) (args := #[.pointer (some ⟨w.heap.size + 1 + 1, 0, none⟩), .pointer (some ⟨w.heap.size, 0, none⟩), .pointer (some ⟨w.heap.size + 1, 0, none⟩)]) (by simp) (by simp [go_sem]) ?_
  refine (tries_idle _).mono ?_
  rintro e u' w'' ⟨rfl, rfl, rfl⟩
  refine ⟨.bool true, results_cell1 rfl _ _ (w.heap.size + 1) 4 _ _ rfl HPUT.out rfl rfl, rfl, ?_, ?_, x, w', HV.out, (Fr.refl (· = w.heap.size + 1) _).set (p := ⟨w.heap.size + 1, 0, none⟩) (.inr rfl) (.bool true), by omega⟩
  · exact HJ.out.fr ((Fr.refl (· = w.heap.size + 1) _).set (p := ⟨w.heap.size + 1, 0, none⟩) (.inr rfl) (.bool true)) (by omega) (by omega)
  · exact ((Fr.of_below hB).trans HFR.out (fun _ _ h => h)).set (.inl (by simp)) _

/-! ### is, takes, must at a row of texts that was laid for the call -/
def strs (l : List Bags.Str) : Array Value := (l.map fun u => Value.string (tx u)).toArray
theorem Texts.lit {l : List Bags.Str} (h0 : 0 < l.length) (h8 : l.length ≤ 8) (w : World) (t : TypeId) : Texts (w.alloc (.cells (strs l) t)) (.slice (some ⟨w.heap.size, 0, none⟩) l.length l.length) l := by
  refine .inr ⟨_, rfl, h0, h8, fun j u hu => ?_⟩
  rw [(Blk.made w t (strs l)).cell j]
  simp [strs, hu]
theorem Rdr.alloc {w : World} {r A : Nat} {ws : List Bags.W} {i : Nat} (h : Rdr w r A ws i) (o : Obj) : Rdr (w.alloc o) r A ws i := h.below ((Below.refl _ _).alloc (Nat.le_refl _) _)

section
variable (hC : ContSaid) {r A : Nat} {ws : List Bags.W} {i s : Nat} {t : TypeId} {W : World} {cs : Array Value} {g n : Nat} {l : List Bags.Str}
include hC
theorem must_yes (ht : isT (Bags.hd (ws.drop i)) s l = true) (hr : Rdr W r A ws i) (hi : i ≤ ws.length) (hz : ws.length ≤ 140737488351232) (h0 : 0 < l.length) (h8 : l.length ≤ 8) (hcs : cs = strs l) (hg : g = W.heap.size) (hn : n = l.length) :
    Calls Tryz.prog 64 #[.pointer (some ⟨r, 0, none⟩), .int .i64 s, .slice (some ⟨g, 0, none⟩) n n] (W.alloc (.cells cs t)) fun e w' =>
      e = .returned (wordVal (Bags.hd (ws.drop i))) ∧ Rdr w' r A ws (i + 1) ∧ Fr (· = r) W w' := by
  subst hcs hg hn
  refine (must_t hC s (hr.alloc _) hi (Texts.lit h0 h8 W t) hz).mono ?_
  rintro e w' ⟨h1, h2⟩
  rw [if_pos ht] at h2
  exact ⟨h2.1, h2.2, ((Fr.refl _ _).alloc _).trans h1 fun _ _ h => h⟩
theorem must_no (ht : isT (Bags.hd (ws.drop i)) s l = false) (hr : Rdr W r A ws i) (hi : i ≤ ws.length) (hz : ws.length ≤ 140737488351232) (h0 : 0 < l.length) (h8 : l.length ≤ 8) (hcs : cs = strs l) (hg : g = W.heap.size) (hn : n = l.length) :
    Calls Tryz.prog 64 #[.pointer (some ⟨r, 0, none⟩), .int .i64 s, .slice (some ⟨g, 0, none⟩) n n] (W.alloc (.cells cs t)) fun e w' =>
      e = .panicked missed ∧ Rdr w' r A ws i ∧ Fr (· = r) W w' := by
  subst hcs hg hn
  refine (must_t hC s (hr.alloc _) hi (Texts.lit h0 h8 W t) hz).mono ?_
  rintro e w' ⟨h1, h2⟩
  rw [if_neg (by simp [ht])] at h2
  exact ⟨h2.1, h2.2, ((Fr.refl _ _).alloc _).trans h1 fun _ _ h => h⟩
theorem takes_at (hr : Rdr W r A ws i) (hi : i ≤ ws.length) (hz : ws.length ≤ 140737488351232) {b : Bool} (ht : isT (Bags.hd (ws.drop i)) s l = b) (h0 : 0 < l.length) (h8 : l.length ≤ 8) (hcs : cs = strs l) (hg : g = W.heap.size) (hn : n = l.length) :
    Calls Tryz.prog 83 #[.pointer (some ⟨r, 0, none⟩), .int .i64 s, .slice (some ⟨g, 0, none⟩) n n] (W.alloc (.cells cs t)) fun e w' =>
      e = .returned (.bool b) ∧ Rdr w' r A ws (if b then i + 1 else i) ∧ Fr (· = r) W w' := by
  subst hcs hg hn ht
  refine (takes_t hC s (hr.alloc _) hi (Texts.lit h0 h8 W t) hz).mono ?_
  rintro e w' ⟨h1, h2, h3⟩
  exact ⟨h1, h2, ((Fr.refl _ _).alloc _).trans h3 fun _ _ h => h⟩
theorem is_at (hr : Rdr W r A ws i) (hi : i ≤ ws.length) {b : Bool} (ht : isT (Bags.hd (ws.drop i)) s l = b) (h0 : 0 < l.length) (h8 : l.length ≤ 8) (hcs : cs = strs l) (hg : g = W.heap.size) (hn : n = l.length) :
    Calls Tryz.prog 82 #[.pointer (some ⟨r, 0, none⟩), .int .i64 s, .slice (some ⟨g, 0, none⟩) n n] (W.alloc (.cells cs t)) fun e w' =>
      e = .returned (.bool b) ∧ Rdr w' r A ws i ∧ Fr (· = r) W w' := by
  subst hcs hg hn ht
  refine (is_t hC s (hr.alloc _) hi (Texts.lit h0 h8 W t)).mono ?_
  rintro e w' ⟨h1, h2⟩
  exact ⟨h1, (hr.alloc _).below h2, ((Fr.refl _ _).alloc _).trans (Fr.of_below h2) fun _ _ h => h⟩
end

set_option maxRecDepth 100000 in
set_option maxHeartbeats 1000000 in
theorem inBrackets_any (hC : ContSaid) {r A : Nat} {ws : List Bags.W} {i : Nat} {w : World} (hr : Rdr w r A ws i) (hi : i ≤ ws.length) (hz : ws.length ≤ 140737488351232) {F : FuncId} {first cap : Array Value} {S : Nat → Prop} (hS : ∀ k, S k → k < w.heap.size) (hSr : S r)
    (hent : ∀ (args : Array Value) (w : World), (callFunc F args).run Tryz.prog w = .ok (.enter F args) w) {o : Option Nat} (ho : ∀ j, o = some j → j ≤ ws.length) (hi' : (Bags.hd (ws.drop i)).is 5 [Bags.str "("] = true → i + 1 ≤ ws.length)
    {V : Value → World → Prop} {I : World → Prop} (hI0 : I w) (hI : ∀ w1 w2, I w1 → Fr (· = r) w1 w2 → I w2) (hF : ∀ W, Fr (· = r) w W → Rdr W r A ws (i + 1) → (Bags.hd (ws.drop i)).is 5 [Bags.str "("] = true → Calls Tryz.prog F (first ++ cap) W fun e w' => Does S r A ws o V W e w' ∧ I w') :
    Calls Tryz.prog 124 #[.pointer (some ⟨r, 0, none⟩), .func (.func F) first cap] w fun e w' =>
      Does S r A ws (if (Bags.hd (ws.drop i)).is 5 [Bags.str "("] then o.bind fun j => if (Bags.hd (ws.drop j)).is 5 [Bags.str ")"] then some (j + 1) else none else none)
        (fun x w' => x = .tuple #[] ∧ ∃ y w1, V y w1 ∧ Fr (· = r) w1 w') w e w' ∧ I w' := by
  have HI := Lib.hid hI
  have HI0 := Lib.hid hI0
  clear hI hI0
  have hlt := hr.lt
  cases h1 : (Bags.hd (ws.drop i)).is 5 [Bags.str "("]
  · have HR := Lib.hid hr
    have H1 := Lib.hid h1
    clear hr hF hS
    simp only [Bool.false_eq_true, if_false]
    go_enter Tryz.func124, Tryz.ntmps124
    go_wp2_with (go_at_call 64; refine (must_no hC (l := [Bags.str "("]) H1.out HR.out hi hz (by decide) (by decide) rfl rfl rfl).mono ?_; rintro e w' ⟨rfl, hR, hF⟩)
    exact ⟨rfl, ⟨hF.mono (fun k _ hk => hk ▸ hSr), rfl, _, hR⟩, HI.out _ _ HI0.out hF⟩
  · have hi1 := hi' h1
    have HR := Lib.hid hr
    have HF := Lib.hid (fun W a b => hF W a b h1)
    have HS := Lib.hid hS
    have H1 := Lib.hid h1
    clear hr hF hS
    simp only [if_true]
    cases o with
    | none =>
      go_enter Tryz.func124, Tryz.ntmps124
      go_wp2_with (go_at_call 64; refine (must_yes hC (l := [Bags.str "("]) H1.out HR.out hi hz (by decide) (by decide) rfl rfl rfl).mono ?_; rintro e w' ⟨rfl, hR, hG⟩)
      have HR1 := Lib.hid hR
      have HG := Lib.hid hG
      clear hR hG
      go_wp2
      refine (HF.out _ HG.out HR1.out).mono ?_
      rintro e w2 ⟨⟨hfr, rfl, j, hj⟩, hi2⟩
      exact ⟨rfl, ⟨((HG.out.mono (fun k _ hk => hk ▸ hSr)).trans hfr (fun _ _ h => h)), rfl, _, hj⟩, hi2⟩
    | some j =>
      have hj := ho j rfl
      simp only [Option.bind_some]
      cases h2 : (Bags.hd (ws.drop j)).is 5 [Bags.str ")"]
      · have H2 := Lib.hid h2
        simp only [Bool.false_eq_true, if_false]
        go_enter Tryz.func124, Tryz.ntmps124
        go_wp2_with (go_at_call 64; refine (must_yes hC (l := [Bags.str "("]) H1.out HR.out hi hz (by decide) (by decide) rfl rfl rfl).mono ?_; rintro e w' ⟨rfl, hR, hG⟩)
        have HR1 := Lib.hid hR
        have HG := Lib.hid hG
        clear hR hG
        go_wp2
        refine (HF.out _ HG.out HR1.out).mono ?_
        rintro e w2 ⟨⟨hfr, ⟨x, rfl, hV⟩, hj2⟩, hi2⟩
        have HI2 := Lib.hid hi2
        clear hi2
        have HR2 := Lib.hid hj2
        have HFR := Lib.hid hfr
        have HV := Lib.hid hV
        clear hj2 hfr hV
        go_wp2_with (go_at_call 64; refine (must_no hC (l := [Bags.str ")"]) H2.out HR2.out hj hz (by decide) (by decide) rfl rfl rfl).mono ?_; rintro e w3 ⟨rfl, hR, hG⟩)
        exact ⟨rfl, ⟨(((HG.out.mono (fun k _ hk => hk ▸ hSr)).trans HFR.out (fun _ _ h => h)).trans (hG.mono (fun k _ hk => hk ▸ hSr)) (fun _ _ h => h)), rfl, _, hR⟩, HI.out _ _ HI2.out hG⟩
      · have H2 := Lib.hid h2
        simp only [if_true]
        go_enter Tryz.func124, Tryz.ntmps124
        go_wp2_with (go_at_call 64; refine (must_yes hC (l := [Bags.str "("]) H1.out HR.out hi hz (by decide) (by decide) rfl rfl rfl).mono ?_; rintro e w' ⟨rfl, hR, hG⟩)
        have HR1 := Lib.hid hR
        have HG := Lib.hid hG
        clear hR hG
        go_wp2
        refine (HF.out _ HG.out HR1.out).mono ?_
        rintro e w2 ⟨⟨hfr, ⟨x, rfl, hV⟩, hj2⟩, hi2⟩
        have HI2 := Lib.hid hi2
        clear hi2
        have HR2 := Lib.hid hj2
        have HFR := Lib.hid hfr
        have HV := Lib.hid hV
        clear hj2 hfr hV
        go_wp2_with (go_at_call 64; refine (must_yes hC (l := [Bags.str ")"]) H2.out HR2.out hj hz (by decide) (by decide) rfl rfl rfl).mono ?_; rintro e w3 ⟨rfl, hR, hG⟩)
        refine bodyPost_end (results_none rfl _ _ _) rfl ⟨⟨?_, ⟨_, rfl, rfl, x, w2, HV.out, hG⟩, hR⟩, HI.out _ _ HI2.out hG⟩
        exact (((HG.out.mono (fun k _ hk => hk ▸ hSr)).trans HFR.out (fun _ _ h => h)).trans (hG.mono (fun k _ hk => hk ▸ hSr)) (fun _ _ h => h))
end Go.Proofs.YtoephflcjllaaaaGreatDoor
/- Parts of a query in memory. -/
namespace Go.Proofs.YtoephflcjllaaaaGreatDoor
open Go.RowKit

/-- One cell: an interface, a pointer to a block of its own (at B or above) that holds these. -/
def Node (w : World) (B : Nat → Prop) (pt t : TypeId) (cs : Array Value) (l : List Value) : Prop := ∃ b, B b ∧ l = [.iface pt (.pointer (some ⟨b, 0, none⟩))] ∧ Blk w b t cs
/-- The block of a row is one of these. -/
def Own (B : Nat → Prop) (v : Value) : Prop := ∀ g, v.ownBlock = some g → B g
/-- Columns, as pointers. -/
def repCols (w : World) (B : Nat → Prop) : Bags.T → List Value → Prop
  | .none, l => l = []
  | .cons (.col o n) r, l => ∃ b l', B b ∧ l = .pointer (some ⟨b, 0, none⟩) :: l' ∧ Blk w b 229 #[.string (tx o), .string (tx n)] ∧ repCols w B r l'
  | _, _ => False
def str2 (s : Bags.Str) (all : Bool) : Bags.Str := if all then s ++ Bags.str " all" else s
/-- A part in memory. -/
def rep0 (w : World) (B : Nat → Prop) : Bags.T → List Value → Prop
  | .none, l => l = []
  | .num n, l => Node w B 259 261 #[.iface 159 (.int .i64 n)] l
  | .text s, l => Node w B 259 261 #[.iface 156 (.string (tx s))] l
  | .null, l => Node w B 259 261 #[.iface 155 (.agg #[])] l
  | .col o n, l => Node w B 211 229 #[.string (tx o), .string (tx n)] l
  | .neg a, l => ∃ x, rep0 w B a [x] ∧ Node w B 256 258 #[x] l
  | .bin s a b, l => ∃ x y, rep0 w B a [x] ∧ rep0 w B b [y] ∧ Node w B 265 269 #[.string (tx s), x, y] l
  | .agg fn a, l => ∃ x, ((a = .none ∧ x = .nilIface) ∨ rep0 w B a [x]) ∧ Node w B 262 264 #[.string (tx fn), x] l
  | .junct s a b, l => ∃ x y, rep0 w B a [x] ∧ rep0 w B b [y] ∧ Node w B 247 251 #[.string (tx s), x, y] l
  | .not a, l => ∃ x, rep0 w B a [x] ∧ Node w B 244 246 #[x] l
  | .exist q, l => ∃ x, rep0 w B q [x] ∧ Node w B 270 272 #[x] l
  | .isnull a n, l => ∃ x, rep0 w B a [x] ∧ Node w B 273 277 #[x, .bool n] l
  | .isin a n q, l => ∃ x y, rep0 w B a [x] ∧ rep0 w B q [y] ∧ Node w B 278 280 #[x, .bool n, y] l
  | .cmp s a b, l => ∃ x y, rep0 w B a [x] ∧ rep0 w B b [y] ∧ Node w B 284 285 #[.string (tx s), x, y] l
  | .quant s how a q, l => ∃ x y, rep0 w B a [x] ∧ rep0 w B q [y] ∧ Node w B 281 283 #[.string (tx s), .string (tx how), x, y] l
  | .comb s all a b, l => ∃ x y, rep0 w B a [x] ∧ rep0 w B b [y] ∧ Node w B 179 183 #[.string (tx (str2 s all)), x, y] l
  | .sel d it f wh g h, l => ∃ vi ni ci vf nf cf xw vg ng cg xh,
      w.ownsRow 0 203 2 vi ni ci ∧ Own B vi ∧ rep0 w B it ci ∧ w.ownsRow 0 207 2 vf nf cf ∧ Own B vf ∧ rep0 w B f cf ∧ ((wh = .none ∧ xw = .nilIface) ∨ rep0 w B wh [xw]) ∧
      w.ownsRow 0 211 1 vg ng cg ∧ Own B vg ∧ repCols w B g cg ∧ ((h = .none ∧ xh = .nilIface) ∨ rep0 w B h [xh]) ∧
      Node w B 193 199 #[.bool d, vi, vf, xw, vg, xh] l
  | .cons a b, l => ∃ l1 l2, l = l1 ++ l2 ∧ rep0 w B a l1 ∧ rep0 w B b l2
  | .item e s, l => ∃ x, l = [x, .string (tx s)] ∧ rep0 w B e [x]
  | .src t s, l => l = [.string (tx t), .string (tx s)]

/-- A part in memory, in blocks from B on. -/
def rep (w : World) (B : Nat) (t : Bags.T) (l : List Value) : Prop := rep0 w (fun b => B ≤ b) t l

section
variable {w w' : World} {P P' : Nat → Prop} {B B' : Nat} {S : Nat → Prop}
theorem Node.fr {pt t : TypeId} {cs : Array Value} {l : List Value} (h : Node w P pt t cs l) (hf : Fr S w w') (hS : ∀ k, S k → ¬ P k) (hP : ∀ k, P k → k < w.heap.size → P' k) : Node w' P' pt t cs l := by
  obtain ⟨b, h1, h2, h3⟩ := h
  exact ⟨b, hP b h1 h3.lt, h2, h3.fr hf fun hs => hS _ hs h1⟩
theorem own_size {e : TypeId} {size n : Nat} {v : Value} {xs : List Value} (h : w.ownsRow B e size v n xs) {g : Nat} (hg : v.ownBlock = some g) : g < w.heap.size ∧ B ≤ g := by
  obtain ⟨h1, h2⟩ := h
  rcases h2 with ⟨rfl, _⟩ | ⟨g', cap, cur, rfl, h3, h4, h5⟩
  · simp [Value.ownBlock] at hg
  · simp [Value.ownBlock] at hg; subst hg; exact ⟨lt_of_some h4, h3⟩
theorem ownsRow_fr {e : TypeId} {size n : Nat} {v : Value} {xs : List Value} (h : w.ownsRow B e size v n xs) (hf : Fr S w w') (hS : ∀ k, S k → v.ownBlock ≠ some k) (hB : ∀ g, v.ownBlock = some g → B ≤ g → B' ≤ g) : w'.ownsRow B' e size v n xs := by
  obtain ⟨h1, h2⟩ := h
  refine ⟨h1, ?_⟩
  rcases h2 with h2 | ⟨g, cap, cur, rfl, h3, h4, h5⟩
  · exact .inl h2
  · exact .inr ⟨g, cap, cur, rfl, hB g rfl h3, (hf.keep g (lt_of_some h4) fun hs => hS _ hs rfl).trans h4, h5⟩
theorem ownsRow_fr0 {e : TypeId} {size n : Nat} {v : Value} {xs : List Value} (h : w.ownsRow 0 e size v n xs) (ho : Own P v) (hf : Fr S w w') (hS : ∀ k, S k → ¬ P k) : w'.ownsRow 0 e size v n xs :=
  ownsRow_fr h hf (fun k hk e => hS k hk (ho k e)) (fun _ _ _ => Nat.zero_le _)
theorem Own.mono {e : TypeId} {size n : Nat} {v : Value} {xs : List Value} (ho : Own P v) (h : w.ownsRow 0 e size v n xs) (hP : ∀ k, P k → k < w.heap.size → P' k) : Own P' v := fun g hg => hP g (ho g hg) (own_size h hg).1
theorem repCols.fr (hf : Fr S w w') (hS : ∀ k, S k → ¬ P k) (hP : ∀ k, P k → k < w.heap.size → P' k) : ∀ {t : Bags.T} {l : List Value}, repCols w P t l → repCols w' P' t l := by
  intro t
  induction t with
  | none => intro l h; exact h
  | cons a r iha ih =>
    intro l h
    cases a with
    | col o n =>
      obtain ⟨b, l', h1, h2, h3, h4⟩ := h
      exact ⟨b, l', hP b h1 h3.lt, h2, h3.fr hf fun hs => hS _ hs h1, ih h4⟩
    | _ => exact h.elim
  | _ => intro l h; simp [repCols] at h
theorem rep0.fr (hf : Fr S w w') (hS : ∀ k, S k → ¬ P k) (hP : ∀ k, P k → k < w.heap.size → P' k) : ∀ {t : Bags.T} {l : List Value}, rep0 w P t l → rep0 w' P' t l := by
  intro t
  induction t with
  | none => intro l h; exact h
  | src a b => intro l h; exact h
  | num | text | null | col => intro l h; exact Node.fr h hf hS hP
  | neg a ih | not a ih | exist a ih | isnull a n ih => intro l h; obtain ⟨x, h1, h2⟩ := h; exact ⟨x, ih h1, h2.fr hf hS hP⟩
  | bin s a b iha ihb | junct s a b iha ihb | isin a n b iha ihb | cmp s a b iha ihb | quant s how a b iha ihb | comb s all a b iha ihb =>
    intro l h; obtain ⟨x, y, h1, h2, h3⟩ := h; exact ⟨x, y, iha h1, ihb h2, h3.fr hf hS hP⟩
  | agg fn a ih =>
    intro l h
    obtain ⟨x, h1, h2⟩ := h
    exact ⟨x, h1.imp id ih, h2.fr hf hS hP⟩
  | cons a b iha ihb => intro l h; obtain ⟨l1, l2, h1, h2, h3⟩ := h; exact ⟨l1, l2, h1, iha h2, ihb h3⟩
  | item e s ih => intro l h; obtain ⟨x, h1, h2⟩ := h; exact ⟨x, h1, ih h2⟩
  | sel d it f wh g h' ih1 ih2 ih3 ih4 ih5 =>
    intro l h
    obtain ⟨vi, ni, ci, vf, nf, cf, xw, vg, ng, cg, xh, h1, o1, h2, h3, o3, h4, h5, h6, o6, h7, h8, h9⟩ := h
    exact ⟨vi, ni, ci, vf, nf, cf, xw, vg, ng, cg, xh, ownsRow_fr0 h1 o1 hf hS, o1.mono h1 hP, ih1 h2, ownsRow_fr0 h3 o3 hf hS, o3.mono h3 hP, ih2 h4, h5.imp id ih3, ownsRow_fr0 h6 o6 hf hS, o6.mono h6 hP, h7.fr hf hS hP, h8.imp id ih5, h9.fr hf hS hP⟩
theorem rep.fr (hf : Fr S w w') (hS : ∀ k, S k → k < B) (hB : B' ≤ B) {t : Bags.T} {l : List Value} (h : rep w B t l) : rep w' B' t l :=
  rep0.fr hf (fun k hk hb => by have := hS k hk; omega) (fun k hk _ => by omega) h
theorem rep.iface1 : ∀ {t : Bags.T} {x : Value}, rep0 w P t [x] → ∃ p v, x = .iface p v := by
  intro t
  induction t with
  | none => intro x h; simp [rep0] at h
  | src a b => intro x h; simp [rep0] at h
  | num | text | null | col => intro x h; obtain ⟨b, _, h, _⟩ := h; simp at h; exact ⟨_, _, h⟩
  | neg a ih | not a ih | exist a ih | isnull a n ih => intro x h; obtain ⟨y, _, b, _, h, _⟩ := h; simp at h; exact ⟨_, _, h⟩
  | bin s a b iha ihb | junct s a b iha ihb | isin a n b iha ihb | cmp s a b iha ihb | quant s how a b iha ihb | comb s all a b iha ihb =>
    intro x h; obtain ⟨y, z, _, _, b, _, h, _⟩ := h; simp at h; exact ⟨_, _, h⟩
  | agg fn a ih => intro x h; obtain ⟨y, _, b, _, h, _⟩ := h; simp at h; exact ⟨_, _, h⟩
  | cons a b iha ihb =>
    intro x h
    obtain ⟨l1, l2, h1, h2, h3⟩ := h
    cases l1 with
    | nil => simp at h1; subst h1; exact ihb h3
    | cons y l1 => simp at h1; obtain ⟨rfl, rfl, rfl⟩ := h1; exact iha h2
  | item e s ih => intro x h; obtain ⟨y, h, _⟩ := h; simp at h
  | sel d it f wh g h' ih1 ih2 ih3 ih4 ih5 =>
    intro x h
    obtain ⟨vi, ni, ci, vf, nf, cf, xw, vg, ng, cg, xh, h1, _, h2, h3, _, h4, h5, h6, _, h7, h8, b, _, h, _⟩ := h
    simp at h
    exact ⟨_, _, h⟩
theorem rep.iface {t : Bags.T} {x : Value} (h : rep w B t [x]) : ∃ p v, x = .iface p v := rep.iface1 h
end
end Go.Proofs.YtoephflcjllaaaaGreatDoor
