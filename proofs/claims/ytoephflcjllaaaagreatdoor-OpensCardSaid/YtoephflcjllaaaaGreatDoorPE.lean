/- Walk: plain.parts. -/
import Derived.Test.YtoephflcjllaaaaGreatDoorPD
import Derived.BigQuiet
namespace Go.Proofs.YtoephflcjllaaaaGreatDoor
open Go.RowKit Go.Extern

theorem Fr.drewN {S : Nat → Prop} {w w' : World} (h : Fr S w w') (n : Nat) : Fr S w (w'.drewN n) := h.trans ⟨rfl, rfl, rfl, Nat.le_refl _, fun _ _ _ => rfl⟩ (fun _ _ h => h)
theorem Blk.drewN {w : World} {g : Nat} {t : TypeId} {cs : Array Value} (h : Blk w g t cs) (n : Nat) : Blk (w.drewN n) g t cs := h
/-- What parts says of a fault. -/
def Kinds (k : Int) : Prop := 1 ≤ k ∧ k ≤ 9

set_option maxRecDepth 100000 in
set_option maxHeartbeats 2000000 in
theorem parts_nil (w : World) : Calls Tryz.prog 12 #[.nilIface] w fun e w' => e = .returned (.tuple #[.int .i64 0, .int .i64 0]) ∧ w = w' := by
  go_enter Tryz.func12, Tryz.ntmps12
  go_wp2_with fail
  go_ret2
  exact ⟨rfl, rfl⟩

set_option maxRecDepth 100000 in
set_option maxHeartbeats 2000000 in
theorem parts_any (b : Nat) (k p : Int) (hk : Kinds k) (w : World) (hb : Blk w b 75 #[.int .i64 k, .int .i64 p]) (hE : w.cell? ⟨0, 0, none⟩ = some (rty 36)) :
    Calls Tryz.prog 12 #[.iface 72 (.pointer (some ⟨b, 0, none⟩))] w fun e w' => e = .returned (.tuple #[.int .i64 k, .int .i64 p]) ∧ Below w.heap.size w w' := by
  have HB := Lib.hid hb
  have hlt := hb.lt
  have HA := Lib.hid (fun (o : Obj) (h : o = .cells #[.pointer none] 72) => errors_as b w.heap.size (.pointer none) (w.alloc o) (h ▸ Blk.made w _ _) (cell_alloc hE o))
  clear hb
  go_enter Tryz.func12, Tryz.ntmps12
  go_wp2_with fail
  refine (HA.out _ rfl).mono ?_
  rintro e w' ⟨rfl, hF, hP⟩
  have hb2 := (HB.out.alloc (.cells #[.pointer none] 72)).fr hF (by omega)
  have HF := Lib.hid hF
  have HP := Lib.hid hP
  have HB2 := Lib.hid hb2
  have hsz := hF.size
  clear hF hP hb2
  go_wp2_with fail
  go_loopw [5] (fun v wr => ∃ n : Nat, v = .int .i64 n ∧ n ≤ 10 ∧ Fr (fun _ => False) w' wr) (fun v _ => 10 - (intOf v).toNat)
  case atStart => exact ⟨0, rfl, by omega, Fr.refl _ _⟩
  case round =>
    rename_i wr
    obtain ⟨n, rfl, hn, hf⟩ := hrel
    have hb3 := HB2.out.fr hf (fun h => h)
    have hp3 := HP.out.fr hf (fun h => h)
    have HI := Lib.hid (fun m => (errors_is b k p n (World.drewN wr m) hb3).mono (R' := fun e w' => e = .returned (.bool (k == n)) ∧ w' = World.drewN wr m) fun _ _ h => ⟨h.1, h.2.symm⟩)
    have c0 := hb3.cell 0
    have c1 := hb3.cell 1
    have d0 := hp3.cell 0
    simp at c0 c1 d0
    have HFR := Lib.hid hf
    clear hf hb3 hp3
    by_cases hlt : (n : Int) ≤ 9
    · have hq : ((n : Int) == k) = (k == (n : Int)) := by rw [Bool.eq_iff_iff]; simp; exact eq_comm
      have hq2 : ((k == (n : Int)) != ((n : Int) == k)) = false := by rw [hq]; simp
      generalize (k == (n : Int)) = B1 at *
      go_wp2_with fail
      go_quiet ((go_at_call 32; refine Calls.quiet_of_same (HI.out _)))
      go_wp2_with fail
      exact ⟨⟨n + 1, by simp, by omega, HFR.out.drewN _⟩, by simp [intOf]; omega⟩
    · have hlt' : ¬ (n : Int) ≤ 9 := by omega
      have hk0 : (k == 0) = false := by unfold Kinds at hk; simp; omega
      go_wp2_with fail
      go_quiet (fail)
      go_wp2_with fail
      go_ret2
      refine ⟨rfl, ?_⟩
      have h1 := fun nq => (((Fr.refl (fun k => w.heap.size ≤ k) w).alloc (.cells #[.pointer none] 72)).trans HF.out (fun k hk h => by omega)).trans (HFR.out.drewN nq) (fun k hk h => h.elim)
      exact (h1 _).below (Nat.le_refl _) (fun _ h => h)
end Go.Proofs.YtoephflcjllaaaaGreatDoor
