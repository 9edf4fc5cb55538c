/- Walks: bags.Print with its recover. -/
import Derived.Test.YtoephflcjllaaaaGreatDoorJ11
import Derived.Test.YtoephflcjllaaaaGreatDoorJ21
import Derived.Test.YtoephflcjllaaaaGreatDoorJ22
namespace Go.Proofs.YtoephflcjllaaaaGreatDoor
open Go.RowKit

def met (b : Nat) (r : Bool) : PanicEntry := { v := .iface 72 (.pointer (some ⟨b, 0, none⟩)), recovered := r }

theorem results_tc {P : Program} {fn : Func} {p q : Tmp} {ty : TypeId} (h : fn.results = #[.tmp q, .cell p ty]) (tmps : Array Value) (w : World) (g : Nat) (t : TypeId) (v u : Value) (d : TypeDesc)
    (hq : tmps.getD q undef = u) (hp : tmps.getD p undef = .pointer (some ⟨g, 0, none⟩)) (hb : Blk w g t #[v]) (hu : P.underlying ty = some d) (hd : (match d with | .struct _ | .array _ _ => true | _ => false) = false) :
    (results fn tmps).run P w = .ok (.tuple #[u, v]) w := by
  have hp' : tmps[p]?.getD undef = .pointer (some ⟨g, 0, none⟩) := by simpa using hp
  have hq' : tmps[q]?.getD undef = u := by simpa using hq
  have hagg : (isAgg ty).run P w = .ok false w := by
    unfold isAgg
    rw [Sem.run_bind, run_underlying hu w]
    cases d <;> simp_all
  have hc : w.cell? ⟨g, 0, none⟩ = some v := by simpa using hb.cell 0
  simp [results, h, hp', hq', asAddr, loadVar, Sem.run_bind, hagg, go_sem, hc]

set_option maxRecDepth 100000 in
set_option maxHeartbeats 1000000 in
theorem caught1_any {b q e : Nat} {tq te : TypeId} {x : Value} (w : World) (hq : Blk w q tq #[.pointer (some ⟨e, 0, none⟩)]) (he : Blk w e te #[x]) :
    Calls Tryz.prog 59 #[.iface 72 (.pointer (some ⟨b, 0, none⟩)), .pointer (some ⟨q, 0, none⟩)] w fun r w' =>
      r = .returned (.tuple #[]) ∧ w' = w.setCell ⟨e, 0, none⟩ (.iface 72 (.pointer (some ⟨b, 0, none⟩))) := by
  have hta : ∀ w, (Instr.typeAssert (.iface 72 (.pointer (some ⟨b, 0, none⟩))) 20 72 true).run Tryz.prog w = .ok (.tuple #[.pointer (some ⟨b, 0, none⟩), .bool true]) w := fun _ => by kernel_rfl
  have hnot : ∀ (x : Bool) (w : World), (Op.unary .not (.bool x)).run Tryz.prog w = .ok (.bool (!x)) w := fun _ _ => rfl
  have c1 := hq.cell 0
  have c0 := he.cell 0
  have g0 := he.free 0
  simp at c1 c0
  clear hq he
  go_enter Tryz.func59, Tryz.ntmps59
  go_wp2_with fail
  first
  | exact bodyPost_end (results_none rfl _ _ _) rfl ⟨rfl, rfl⟩
  | (go_ret; exact ⟨rfl, rfl⟩)
  | (go_ret2; exact ⟨rfl, rfl⟩)
  | trace_state

set_option maxRecDepth 100000 in
set_option maxHeartbeats 1000000 in
theorem caught_any (p : Addr) (w : World) :
    Calls Tryz.prog 39 #[.pointer (some p)] w fun r w' =>
      r = .returned (.func (.func 59) #[] #[.pointer (some ⟨w.heap.size, 0, none⟩)]) ∧ w.alloc (.cells #[.pointer (some p)] 92) = w' := by
  have hmf : ∀ (fn : Fn) (first cap : Array Value) (w : World), (Instr.makeFunc fn first cap).run Tryz.prog w = .ok (.func fn first cap) w := fun _ _ _ _ => rfl
  go_enter Tryz.func39, Tryz.ntmps39
  go_wp2_with fail
  go_ret
  exact ⟨rfl, rfl⟩

set_option maxRecDepth 100000 in
set_option maxHeartbeats 1000000 in
theorem print_catch {e b : Nat} {te : TypeId} {x : Value} (w : World) (he : Blk w e te #[x]) :
    CallsD Tryz.prog 38 #[.pointer (some ⟨e, 0, none⟩)] (.panicking [met b false]) w fun r u' w' =>
      r = .returned (.tuple #[]) ∧ u' = .panicking [met b true] ∧ (w.alloc (.cells #[.pointer (some ⟨e, 0, none⟩)] 92)).setCell ⟨e, 0, none⟩ (.iface 72 (.pointer (some ⟨b, 0, none⟩))) = w' := by
  have HE := Lib.hid he
  have HC := Lib.hid (fun W => caught_any ⟨e, 0, none⟩ W)
  clear he
  refine callsD_of_wpS Tryz.func38 rfl fun c₀ cs hu => ?_
  apply wpS_seq
  apply wpS_region
  simp [wpOpsS, go_sem, recoverD, hu, Tryz.ntmps38, Exit.thenS, met]
  refine wpS_of_wp ?_
  simp only [Array.replicate, List.replicate, List.setIfInBounds_toArray, List.set_cons_zero, List.set_cons_succ, List.append_toArray, List.cons_append, List.nil_append]
  go_wp2_with fail
  refine (HC.out _).mono ?_
  rintro r w2 ⟨rfl, rfl⟩
  go_wp2_with fail
  refine (caught1_any (te := te) (x := x) (b := b) _ (Blk.made w 92 _) (HE.out.alloc _)).mono ?_
  rintro r w3 ⟨rfl, rfl⟩
  go_wp2_with fail
  simp [bodyPostS, results, Tryz.results38]

set_option maxRecDepth 100000 in
set_option maxHeartbeats 1000000 in
theorem print_idle {a : Value} (w : World) : CallsD Tryz.prog 38 #[a] .returning w fun r u' w' => r = .returned (.tuple #[]) ∧ u' = .returning ∧ w' = w := by
  refine callsD_of_wpS Tryz.func38 rfl fun c₀ cs hu => ?_
  apply wpS_seq
  apply wpS_region
  simp [wpOpsS, go_sem, recoverD, hu, Tryz.ntmps38, Exit.thenS]
  refine wpS_of_wp ?_
  simp only [Array.replicate, List.replicate, List.setIfInBounds_toArray, List.set_cons_zero, List.set_cons_succ, List.append_toArray, List.cons_append, List.nil_append]
  go_wp2
  cases c₀
  simp_all [bodyPostS, results, Tryz.results38]

/-- What Print answers. -/
def PrintPost (s : ByteArray) (w : World) (e : Ending) (w' : World) : Prop :=
  Below w.heap.size w w' ∧ ((∃ k p b : Nat, e = .returned (.tuple #[.string ⟨#[]⟩, .iface 72 (.pointer (some ⟨b, 0, none⟩))]) ∧ w.heap.size ≤ b ∧ Blk w' b 75 #[.int .i64 k, .int .i64 p] ∧ Bags.Reading (bs s) (.inl (k, p))) ∨
    (∃ t, e = .returned (.tuple #[.string (tx t.print), .nilIface]) ∧ t.print ≠ [] ∧ Bags.Reading (bs s) (.inr t)))

theorem Fr.none_below {w w' : World} (h : Fr (fun _ => False) w w') : Below w.heap.size w w' := by
  exact h.below (Nat.le_refl _) fun _ h => h.elim

/-- A reading that is a query is a good one. -/
theorem reading_good {s : Bags.Str} {t : Bags.T} (h : Bags.Reading s (.inr t)) : Bags.Good t 0 ∧ Bags.sz t ≤ 440000 ∧ t.print ≠ [] := by
  unfold Bags.Reading at h
  split at h
  · cases h
  · rename_i ws hw
    rcases h with ⟨t', g, h⟩ | ⟨_, h⟩
    · split at h
      · cases h
      · injection h with h
        subst h
        exact Bags.good_query hw g
    · cases h

set_option maxRecDepth 100000 in
set_option maxHeartbeats 2000000 in
theorem print_any (hC : ContSaid) (hP : ParseSaid) (s : ByteArray) (w : World) (hs : s.size ≤ 140737488351232) (hv : ∀ W, Below w.heap.size w W → Vars W) (ht : ∀ W, Below w.heap.size w W → Tab W) :
    Calls Tryz.prog 18 #[.string s] w (PrintPost s w) := by
  have hmf : ∀ (fn : Fn) (first cap : Array Value) (w : World), (Instr.makeFunc fn first cap).run Tryz.prog w = .ok (.func fn first cap) w := fun _ _ _ _ => rfl
  have hB0 : Below w.heap.size w (w.alloc (.cells #[.nilIface] 36)) := (Below.refl _ _).alloc (Nat.le_refl _) _
  have HP := Lib.hid (parsed_any hC hP s (w.alloc (.cells #[.nilIface] 36)) hs (hv _ hB0))
  have HB0 := Lib.hid hB0
  have HT := Lib.hid ht
  clear hv ht hB0
  go_enter_defers Tryz.func18, Tryz.ntmps18
  go_wp2_with fail
  refine HP.out.mono ?_
  rintro e w2 ⟨hb, ⟨k, p, b, rfl, h1, h2, h3⟩ | ⟨t, x, rfl, h1, h3⟩⟩
  · have hsz := hb.size
    have hE : Blk w2 w.heap.size 36 #[.nilIface] := (Blk.made w 36 #[.nilIface]).below hb (by simp)
    refine leaves_cons (f := 38) (args := #[.pointer (some ⟨w.heap.size, 0, none⟩)]) (by simp) (by simp [go_sem]) ?_
    refine (print_catch (b := b) w2 hE).mono ?_
    rintro e u' w'' ⟨rfl, rfl, rfl⟩
    have hE2 : Blk _ w.heap.size 36 #[.iface 72 (.pointer (some ⟨b, 0, none⟩))] := (hE.alloc (.cells #[.pointer (some ⟨w.heap.size, 0, none⟩)] 92)).put 0 (.iface 72 (.pointer (some ⟨b, 0, none⟩)))
    have hlt := h2.lt
    have h1' : w.heap.size + 1 ≤ b := by simpa using h1
    have hs1 : w.heap.size + 1 ≤ w2.heap.size := by simpa using hsz
    refine ⟨_, results_tc rfl _ _ w.heap.size 36 _ _ _ rfl rfl hE2 Tryz.underlying36 rfl, ?_, .inl ⟨k, p, b, rfl, by omega, ?_, h3⟩⟩
    · exact ((HB0.out.trans (hb.mono (by simp))).alloc (by omega) _).setCell (Nat.le_refl _) _
    · exact (h2.alloc _).far (p := ⟨w.heap.size, 0, none⟩) (by show b ≠ w.heap.size; omega) _
  · obtain ⟨g1, g2, g3⟩ := reading_good h3
    have hsz := hb.size
    have hs1 : w.heap.size + 1 ≤ w2.heap.size := by simpa using hsz
    have hb' : Below w.heap.size w w2 := HB0.out.trans (hb.mono (by simp))
    obtain ⟨tp, v, f, u, rfl, na, mm, ii, hc⟩ := query_prints (HT.out _ hb') g1 g2 h1
    have hE : Blk w2 w.heap.size 36 #[.nilIface] := (Blk.made w 36 #[.nilIface]).below hb (by simp)
    have HE := Lib.hid hE
    have HC := Lib.hid hc
    have HR := Lib.hid h3
    have HB := Lib.hid hb'
    have G3 := Lib.hid g3
    clear h1 h3 hb hb' g1 g2 g3 hE hc
    go_wp2_with fail
    refine (HC.out _ (Fr.refl _ _)).mono ?_
    rintro e w3 ⟨rfl, hF⟩
    have HF := Lib.hid hF
    have hE3 := HE.out.fr hF (fun h => h)
    have c0 := hE3.cell 0
    have f0 := hE3.free 0
    have l0 := hE3.lt
    simp at c0
    have HE3 := Lib.hid hE3
    clear hF hE3
    go_wp2_with fail
    refine leaves_cons (f := 38) (args := #[.pointer (some ⟨w.heap.size, 0, none⟩)]) (by simp) (by simp [go_sem]) ?_
    refine (print_idle _).mono ?_
    rintro e u' w'' ⟨rfl, rfl, rfl⟩
    refine ⟨_, results_tc rfl _ _ w.heap.size 36 _ _ _ rfl rfl (HE3.out.put 0 .nilIface) Tryz.underlying36 rfl, ?_, .inr ⟨t, rfl, G3.out, HR.out⟩⟩
    exact (HB.out.trans (HF.out.none_below.mono (by omega))).setCell (Nat.le_refl _) _
end Go.Proofs.YtoephflcjllaaaaGreatDoor
/- Walks: plain.Print. -/
namespace Go.Proofs.YtoephflcjllaaaaGreatDoor
open Go.RowKit

theorem reading_kinds {s : Bags.Str} {k p : Nat} (h : Bags.Reading s (.inl (k, p))) : k = 2 ∨ k = 3 ∨ k = 4 := by
  unfold Bags.Reading at h
  split at h
  · injection h with h; injection h with h; exact .inl h
  · rcases h with ⟨t', g, h⟩ | ⟨_, h⟩
    · split at h
      · injection h with h; injection h with h; exact .inr (.inr h)
      · cases h
    · injection h with h; injection h with h; exact .inr (.inl h)

/-- What plain.Print answers. -/
def PlainPost (s : ByteArray) (w : World) (e : Ending) (w' : World) : Prop :=
  Below w.heap.size w w' ∧ ((∃ k p : Nat, e = .returned (.tuple #[.string ⟨#[]⟩, .int .i64 k, .int .i64 p]) ∧ Bags.Reading (bs s) (.inl (k, p))) ∨
    ∃ t, e = .returned (.tuple #[.string (tx t.print), .int .i64 0, .int .i64 0]) ∧ Bags.Reading (bs s) (.inr t))

set_option maxRecDepth 100000 in
set_option maxHeartbeats 2000000 in
theorem plainPrint_any (hC : ContSaid) (hP : ParseSaid) (s : ByteArray) (w : World) (hs : s.size ≤ 140737488351232) (hv : ∀ W, Below w.heap.size w W → Vars W) (ht : ∀ W, Below w.heap.size w W → Tab W) (hE : w.cell? ⟨0, 0, none⟩ = some (rty 36)) :
    Calls Tryz.prog 8 #[.string s] w (PlainPost s w) := by
  have HP := Lib.hid (print_any hC hP s w hs hv ht)
  have hv0 := (hv w (Below.refl _ _)).size
  have HE := Lib.hid hE
  clear hv ht hE
  go_enter Tryz.func8, Tryz.ntmps8
  go_wp2_with fail
  refine HP.out.mono ?_
  rintro e w2 ⟨hb, ⟨k, p, b, rfl, h1, h2, h3⟩ | ⟨t, rfl, h1, h3⟩⟩
  · have hk := reading_kinds h3
    have HB := Lib.hid hb
    have HR := Lib.hid h3
    have hsz := hb.size
    have HA := Lib.hid (parts_any b k p (by unfold Kinds; omega) w2 h2 ((hb.cell (p := ⟨0, 0, none⟩) (by show 0 < w.heap.size; omega)).trans HE.out))
    clear hb h1 h2 h3 hk
    go_wp2_with fail
    refine HA.out.mono ?_
    rintro e w3 ⟨rfl, hb3⟩
    have HB3 := Lib.hid hb3
    clear hb3
    go_wp2_with fail
    go_ret3
    exact ⟨HB.out.trans (HB3.out.mono hsz), .inl ⟨k, p, rfl, HR.out⟩⟩
  · have t1 : (tx t.print).toList.isEmpty = false := by
      rw [bs_toList, bs_tx]
      cases hp : t.print with
      | nil => exact absurd hp h1
      | cons a l => rfl
    have HB := Lib.hid hb
    have HR := Lib.hid h3
    clear hb h1 h3
    go_wp2_with fail
    refine (parts_nil _).mono ?_
    rintro e w3 ⟨rfl, rfl⟩
    go_wp2_with fail
    go_ret3
    exact ⟨HB.out, .inr ⟨t, rfl, HR.out⟩⟩

end Go.Proofs.YtoephflcjllaaaaGreatDoor
