/- The reference's printer: a selection; printed by gen_uc.py. -/
import Derived.Test.YtoephflcjllaaaaGreatDoorJ46
import Derived.Deep.CutRange
namespace Go.Proofs.YtoephflcjllaaaaGreatDoor
open Go.RowKit

/-- A tree that prints s, wherever what stood in w still stands. -/
def RP (w : World) (b : Nat) (s : Bags.Str) : Prop := ∀ W, Fr (fun _ => False) w W → Calls Tryz.prog 10 #[.pointer (some ⟨b, 0, none⟩)] W (PPost W s)
/-- One that may be none. -/
def optR (w : World) (x : Value) (pre s o : Bags.Str) : Prop := (x = .pointer none ∧ o = []) ∨ (∃ p, x = .pointer (some ⟨p, 0, none⟩) ∧ RP w p s ∧ o = pre ++ s)
theorem keepS {w W : World} {b : Nat} {t : TypeId} {kd sg txt of_ as_ : Bags.Str} {nm : Int} {st nt al ds : Bool} {kids items from_ group wher having_ : Value}
    (hb : Blk w b t (treeC kd sg txt of_ as_ nm st nt al ds kids items from_ group wher having_)) (hF : Fr (fun _ => False) w W) :
    W.cell? ⟨b, 6, none⟩ = some (.bool st) ∧ W.cell? ⟨b, 9, none⟩ = some (.bool ds) ∧ W.cell? ⟨b, 11, none⟩ = some items ∧ W.cell? ⟨b, 12, none⟩ = some from_ ∧ W.cell? ⟨b, 13, none⟩ = some group ∧ W.cell? ⟨b, 14, none⟩ = some wher ∧ W.cell? ⟨b, 15, none⟩ = some having_ := by
  have h := hb.fr hF (fun h => h)
  have c6 := h.cell 6
  have c9 := h.cell 9
  have c11 := h.cell 11
  have c12 := h.cell 12
  have c13 := h.cell 13
  have c14 := h.cell 14
  have c15 := h.cell 15
  simp [treeC] at c6 c9 c11 c12 c13 c14 c15
  exact ⟨c6, c9, c11, c12, c13, c14, c15⟩

set_option maxRecDepth 100000 in
set_option maxHeartbeats 4000000 in
theorem selected_ref {st d : Bool} {ni ns ng ci cs cg : Nat} {bi bs_ bg : Option Addr} {xw xh kids : Value} {b : Nat} {t : TypeId} {kd sg txt of_ as_ : Bags.Str} {nm : Int} {nt al : Bool} {w : World} {sI sS sW sG sH oW oH : Bags.Str}
    (h : Blk w b t (treeC kd sg txt of_ as_ nm st nt al d kids (.slice bi ni ci) (.slice bs_ ns cs) (.slice bg ng cg) xw xh))
    (hI : ∀ W, Fr (fun _ => False) w W → Calls Tryz.prog 43 #[.slice bi ni ci] W (PPost W sI))
    (hS : ∀ W, Fr (fun _ => False) w W → Calls Tryz.prog 43 #[.slice bs_ ns cs] W (PPost W sS))
    (hG : ∀ W, Fr (fun _ => False) w W → Calls Tryz.prog 43 #[.slice bg ng cg] W (PPost W sG))
    (hw : optR w xw [32, 119, 104, 101, 114, 101, 32] sW oW) (hh : optR w xh [32, 104, 97, 118, 105, 110, 103, 32] sH oH)
    (hl : sI.length + sS.length + sW.length + sG.length + sH.length ≤ 1099511627776) :
    Calls Tryz.prog 26 #[.pointer (some ⟨b, 0, none⟩)] w (PPost w
      ([115, 101, 108, 101, 99, 116, 32] ++ (if d then [100, 105, 115, 116, 105, 110, 99, 116, 32] else []) ++ (if st then [42] else []) ++ sI ++ [32, 102, 114, 111, 109, 32] ++ sS ++ oW ++
        (if ng = 0 then [] else [32, 103, 114, 111, 117, 112, 32, 98, 121, 32] ++ sG) ++ oH)) := by
  have HB := Lib.hid h
  have HI := Lib.hid hI
  have HS := Lib.hid hS
  have HG := Lib.hid hG
  have HW := Lib.hid hw
  have HH := Lib.hid hh
  obtain ⟨c6, c9, _⟩ := keepS h (Fr.refl _ _)
  clear h hI hS hG hw hh
  generalize hR : ([115, 101, 108, 101, 99, 116, 32] ++ (if d then [100, 105, 115, 116, 105, 110, 99, 116, 32] else []) ++ (if st then [42] else []) ++ sI ++ [32, 102, 114, 111, 109, 32] ++ sS ++ oW ++
        (if ng = 0 then [] else [32, 103, 114, 111, 117, 112, 32, 98, 121, 32] ++ sG) ++ oH) = R
  have HR := Lib.hid hR
  clear hR
  have d0 : ([115, 101, 108, 101, 99, 116, 32] : Bags.Str).length + (if d then [100, 105, 115, 116, 105, 110, 99, 116, 32] else [] : Bags.Str).length ≤ 16 := by cases d <;> simp
  obtain ⟨D, hD⟩ : ∃ D, Hid (D = ([115, 101, 108, 101, 99, 116, 32] ++ (if d then [100, 105, 115, 116, 105, 110, 99, 116, 32] else []) : Bags.Str)) := ⟨_, Lib.hid rfl⟩
  have dD : D.length ≤ 16 := by rw [hD.out, List.length_append]; exact d0
  clear d0
  obtain ⟨A1, a1⟩ : ∃ A, Hid (A = tx D) := ⟨_, Lib.hid rfl⟩
  obtain ⟨E, hE⟩ : ∃ E, Hid (E = (if st then [42] else [] : Bags.Str)) := ⟨_, Lib.hid rfl⟩
  have dE : E.length ≤ 1 := by rw [hE.out]; split <;> simp
  obtain ⟨A2, a2, e2⟩ := cat a1 (Lib.hid (rfl : tx E = tx E)) (by omega)
  obtain ⟨I1, i1, j1⟩ := cat a2 (Lib.hid (rfl : tx sI = tx sI)) (by simp; omega)
  obtain ⟨I2, i2, j2⟩ := cat i1 (Lib.hid (rfl : ⟨#[32, 102, 114, 111, 109, 32]⟩ = tx [32, 102, 114, 111, 109, 32])) (by simp; omega)
  obtain ⟨A3, a3, e3⟩ := cat i2 (Lib.hid (rfl : tx sS = tx sS)) (by simp; omega)
  have dW : oW.length ≤ 7 + sW.length := by rcases HW.out with ⟨_, h⟩ | ⟨_, _, _, h⟩ <;> rw [h] <;> simp <;> omega
  have dH : oH.length ≤ 8 + sH.length := by rcases HH.out with ⟨_, h⟩ | ⟨_, _, _, h⟩ <;> rw [h] <;> simp <;> omega
  obtain ⟨W0, w0, q0⟩ := cat a3 (Lib.hid (rfl : ⟨#[32, 119, 104, 101, 114, 101, 32]⟩ = tx [32, 119, 104, 101, 114, 101, 32])) (by simp; omega)
  obtain ⟨W1, w1, q1⟩ := cat w0 (Lib.hid (rfl : tx sW = tx sW)) (by simp; omega)
  obtain ⟨A4, a4⟩ : ∃ A, Hid (A = tx (D ++ E ++ sI ++ [32, 102, 114, 111, 109, 32] ++ sS ++ oW)) := ⟨_, Lib.hid rfl⟩
  obtain ⟨G, hG⟩ : ∃ G, Hid (G = (if ng = 0 then [] else [32, 103, 114, 111, 117, 112, 32, 98, 121, 32] ++ sG : Bags.Str)) := ⟨_, Lib.hid rfl⟩
  have dG : G.length ≤ 10 + sG.length := by rw [hG.out]; split <;> simp; omega
  obtain ⟨G0, g0, p0⟩ := cat a4 (Lib.hid (rfl : ⟨#[32, 103, 114, 111, 117, 112, 32, 98, 121, 32]⟩ = tx [32, 103, 114, 111, 117, 112, 32, 98, 121, 32])) (by simp; omega)
  obtain ⟨G1, g1, p1⟩ := cat g0 (Lib.hid (rfl : tx sG = tx sG)) (by simp; omega)
  obtain ⟨A5, a5⟩ : ∃ A, Hid (A = tx (D ++ E ++ sI ++ [32, 102, 114, 111, 109, 32] ++ sS ++ oW ++ G)) := ⟨_, Lib.hid rfl⟩
  obtain ⟨H0, h0, r0⟩ := cat a5 (Lib.hid (rfl : ⟨#[32, 104, 97, 118, 105, 110, 103, 32]⟩ = tx [32, 104, 97, 118, 105, 110, 103, 32])) (by simp; omega)
  obtain ⟨H1, h1, r1⟩ := cat h0 (Lib.hid (rfl : tx sH = tx sH)) (by simp; omega)
  obtain ⟨A6, a6⟩ : ∃ A, Hid (A = tx (D ++ E ++ sI ++ [32, 102, 114, 111, 109, 32] ++ sS ++ oW ++ G ++ oH)) := ⟨_, Lib.hid rfl⟩
  have HA6 := Lib.hid (show Ending.returned (.string A6) = .returned (.string (tx R)) by rw [a6.out, hD.out, hE.out, hG.out, HR.out])
  have P0 := Lib.hid p0
  have P1 := Lib.hid p1
  have Q0 := Lib.hid q0
  have Q1 := Lib.hid q1
  have R0 := Lib.hid r0
  have R1 := Lib.hid r1
  clear p0 p1 q0 q1 r0 r1
  go_enter Tryz.func26, Tryz.ntmps26
  go_upto_if 12 with fail
  go_cut [3] from 4 (fun v wx => v = .string A1 ∧ w = wx)
  case first =>
    cases d
    · have HA := Lib.hid (show Value.string ⟨#[115, 101, 108, 101, 99, 116, 32]⟩ = .string A1 by rw [a1.out, hD.out]; rfl)
      go_wp2_with fail
      go_meet
      case rel => exact ⟨HA.out, by trivial⟩
    · have HA := Lib.hid (show Value.string (⟨#[115, 101, 108, 101, 99, 116, 32]⟩ ++ ⟨#[100, 105, 115, 116, 105, 110, 99, 116, 32]⟩) = .string A1 by rw [a1.out, hD.out]; exact congrArg Value.string (tx_add _ _))
      go_wp2_with fail
      go_meet
      case rel => exact ⟨HA.out, by trivial⟩
  case rest =>
    obtain ⟨rfl, rfl⟩ := hcut
    go_upto_if 18 with fail
    go_cut [3] from 4 (fun v wx => v = .string A2 ∧ w = wx)
    case first =>
      cases st
      · have HA := Lib.hid (show Value.string A1 = .string A2 by rw [a1.out, a2.out, hE.out]; simp)
        go_wp2_with fail
        go_meet
        case rel => exact ⟨HA.out, by trivial⟩
      · have e2' : ∀ W : World, (Op.stringOp .add A1 ⟨#[42]⟩).run Tryz.prog W = .ok (.string A2) W := fun W => by
          have := e2 W
          rw [show E = [42] from hE.out] at this
          exact this
        clear e2
        go_wp2_with fail
        go_meet
        case rel => exact ⟨by trivial, by trivial⟩
    case rest =>
      obtain ⟨rfl, rfl⟩ := hcut
      clear e2
      obtain ⟨_, _, k11, k12, k13, k14, k15⟩ := keepS HB.out (Fr.refl _ _)
      go_wp2_with fail
      refine (HI.out _ (Fr.refl _ _)).mono ?_
      rintro e w2 ⟨rfl, hF'⟩
      have HF2 := Lib.hid hF'
      clear hF' k11 k12 k13 k14 k15 c6 c9
      obtain ⟨_, _, k11, k12, k13, k14, k15⟩ := keepS HB.out HF2.out
      go_wp2_with fail
      refine (HS.out _ HF2.out).mono ?_
      rintro e w3 ⟨rfl, hF'⟩
      have HF3 := Lib.hid (HF2.out.trans hF' (fun _ _ h => h))
      clear hF' k11 k12 k13 k14 k15
      have hwf := HW.out
      have hhf := HH.out
      rcases hwf with ⟨rfl, hoW⟩ | ⟨pw, rfl, hcw, hoW⟩
      · have HA4 : A3 = A4 := by rw [a3.out, a4.out, hoW, List.append_nil]
        obtain rfl := HA4
        by_cases hng : ng = 0
        · have HA5 : A3 = A5 := by rw [a4.out, a5.out, hG.out, if_pos hng, List.append_nil]
          obtain rfl := HA5
          subst hng
          rcases hhf with ⟨rfl, hoH⟩ | ⟨ph, rfl, hch, hoH⟩
          · have HA6' : A3 = A6 := by rw [a5.out, a6.out, hoH, List.append_nil]
            obtain rfl := HA6'
            clear hoW hoH
            obtain ⟨_, _, k11, k12, k13, k14, k15⟩ := keepS HB.out HF3.out
            go_wp2_with fail
            go_ret
            exact ⟨HA6.out, HF3.out⟩
          · have HCH := Lib.hid hch
            have HA6' : H1 = A6 := by rw [h1.out, a6.out, hoH]; simp only [List.append_assoc]
            obtain rfl := HA6'
            have r0 := R0.out
            have r1 := R1.out
            clear hoW hch hoH
            obtain ⟨_, _, k11, k12, k13, k14, k15⟩ := keepS HB.out HF3.out
            go_wp2_with fail
            refine (HCH.out _ HF3.out).mono ?_
            rintro e w4 ⟨rfl, hF'⟩
            have HF4 := Lib.hid (HF3.out.trans hF' (fun _ _ h => h))
            clear hF' k11 k12 k13 k14 k15
            obtain ⟨_, _, k11, k12, k13, k14, k15⟩ := keepS HB.out HF4.out
            go_wp2_with fail
            go_ret
            exact ⟨HA6.out, HF4.out⟩
        · have HA5 : G1 = A5 := by rw [g1.out, a5.out, hG.out, if_neg hng]; simp only [List.append_assoc]
          obtain rfl := HA5
          have p0 := P0.out
          have p1 := P1.out
          have hng' : (0 : Int) < (ng : Int) := by omega
          rcases hhf with ⟨rfl, hoH⟩ | ⟨ph, rfl, hch, hoH⟩
          · have HA6' : G1 = A6 := by rw [a5.out, a6.out, hoH, List.append_nil]
            obtain rfl := HA6'
            clear hoW hoH
            obtain ⟨_, _, k11, k12, k13, k14, k15⟩ := keepS HB.out HF3.out
            go_wp2_with fail
            refine (HG.out _ HF3.out).mono ?_
            rintro e w4 ⟨rfl, hF'⟩
            have HF4 := Lib.hid (HF3.out.trans hF' (fun _ _ h => h))
            clear hF' k11 k12 k13 k14 k15
            obtain ⟨_, _, k11, k12, k13, k14, k15⟩ := keepS HB.out HF4.out
            go_wp2_with fail
            go_ret
            exact ⟨HA6.out, HF4.out⟩
          · have HCH := Lib.hid hch
            have HA6' : H1 = A6 := by rw [h1.out, a6.out, hoH]; simp only [List.append_assoc]
            obtain rfl := HA6'
            have r0 := R0.out
            have r1 := R1.out
            clear hoW hch hoH
            obtain ⟨_, _, k11, k12, k13, k14, k15⟩ := keepS HB.out HF3.out
            go_wp2_with fail
            refine (HG.out _ HF3.out).mono ?_
            rintro e w4 ⟨rfl, hF'⟩
            have HF4 := Lib.hid (HF3.out.trans hF' (fun _ _ h => h))
            clear hF' k11 k12 k13 k14 k15
            obtain ⟨_, _, k11, k12, k13, k14, k15⟩ := keepS HB.out HF4.out
            go_wp2_with fail
            refine (HCH.out _ HF4.out).mono ?_
            rintro e w5 ⟨rfl, hF'⟩
            have HF5 := Lib.hid (HF4.out.trans hF' (fun _ _ h => h))
            clear hF' k11 k12 k13 k14 k15
            obtain ⟨_, _, k11, k12, k13, k14, k15⟩ := keepS HB.out HF5.out
            go_wp2_with fail
            go_ret
            exact ⟨HA6.out, HF5.out⟩
      · have HCW := Lib.hid hcw
        have HA4 : W1 = A4 := by rw [w1.out, a4.out, hoW]; simp only [List.append_assoc]
        obtain rfl := HA4
        have q0 := Q0.out
        have q1 := Q1.out
        by_cases hng : ng = 0
        · have HA5 : W1 = A5 := by rw [a4.out, a5.out, hG.out, if_pos hng, List.append_nil]
          obtain rfl := HA5
          subst hng
          rcases hhf with ⟨rfl, hoH⟩ | ⟨ph, rfl, hch, hoH⟩
          · have HA6' : W1 = A6 := by rw [a5.out, a6.out, hoH, List.append_nil]
            obtain rfl := HA6'
            clear hcw hoW hoH
            obtain ⟨_, _, k11, k12, k13, k14, k15⟩ := keepS HB.out HF3.out
            go_wp2_with fail
            refine (HCW.out _ HF3.out).mono ?_
            rintro e w4 ⟨rfl, hF'⟩
            have HF4 := Lib.hid (HF3.out.trans hF' (fun _ _ h => h))
            clear hF' k11 k12 k13 k14 k15
            obtain ⟨_, _, k11, k12, k13, k14, k15⟩ := keepS HB.out HF4.out
            go_wp2_with fail
            go_ret
            exact ⟨HA6.out, HF4.out⟩
          · have HCH := Lib.hid hch
            have HA6' : H1 = A6 := by rw [h1.out, a6.out, hoH]; simp only [List.append_assoc]
            obtain rfl := HA6'
            have r0 := R0.out
            have r1 := R1.out
            clear hcw hoW hch hoH
            obtain ⟨_, _, k11, k12, k13, k14, k15⟩ := keepS HB.out HF3.out
            go_wp2_with fail
            refine (HCW.out _ HF3.out).mono ?_
            rintro e w4 ⟨rfl, hF'⟩
            have HF4 := Lib.hid (HF3.out.trans hF' (fun _ _ h => h))
            clear hF' k11 k12 k13 k14 k15
            obtain ⟨_, _, k11, k12, k13, k14, k15⟩ := keepS HB.out HF4.out
            go_wp2_with fail
            refine (HCH.out _ HF4.out).mono ?_
            rintro e w5 ⟨rfl, hF'⟩
            have HF5 := Lib.hid (HF4.out.trans hF' (fun _ _ h => h))
            clear hF' k11 k12 k13 k14 k15
            obtain ⟨_, _, k11, k12, k13, k14, k15⟩ := keepS HB.out HF5.out
            go_wp2_with fail
            go_ret
            exact ⟨HA6.out, HF5.out⟩
        · have HA5 : G1 = A5 := by rw [g1.out, a5.out, hG.out, if_neg hng]; simp only [List.append_assoc]
          obtain rfl := HA5
          have p0 := P0.out
          have p1 := P1.out
          have hng' : (0 : Int) < (ng : Int) := by omega
          rcases hhf with ⟨rfl, hoH⟩ | ⟨ph, rfl, hch, hoH⟩
          · have HA6' : G1 = A6 := by rw [a5.out, a6.out, hoH, List.append_nil]
            obtain rfl := HA6'
            clear hcw hoW hoH
            obtain ⟨_, _, k11, k12, k13, k14, k15⟩ := keepS HB.out HF3.out
            go_wp2_with fail
            refine (HCW.out _ HF3.out).mono ?_
            rintro e w4 ⟨rfl, hF'⟩
            have HF4 := Lib.hid (HF3.out.trans hF' (fun _ _ h => h))
            clear hF' k11 k12 k13 k14 k15
            obtain ⟨_, _, k11, k12, k13, k14, k15⟩ := keepS HB.out HF4.out
            go_wp2_with fail
            refine (HG.out _ HF4.out).mono ?_
            rintro e w5 ⟨rfl, hF'⟩
            have HF5 := Lib.hid (HF4.out.trans hF' (fun _ _ h => h))
            clear hF' k11 k12 k13 k14 k15
            obtain ⟨_, _, k11, k12, k13, k14, k15⟩ := keepS HB.out HF5.out
            go_wp2_with fail
            go_ret
            exact ⟨HA6.out, HF5.out⟩
          · have HCH := Lib.hid hch
            have HA6' : H1 = A6 := by rw [h1.out, a6.out, hoH]; simp only [List.append_assoc]
            obtain rfl := HA6'
            have r0 := R0.out
            have r1 := R1.out
            clear hcw hoW hch hoH
            obtain ⟨_, _, k11, k12, k13, k14, k15⟩ := keepS HB.out HF3.out
            go_wp2_with fail
            refine (HCW.out _ HF3.out).mono ?_
            rintro e w4 ⟨rfl, hF'⟩
            have HF4 := Lib.hid (HF3.out.trans hF' (fun _ _ h => h))
            clear hF' k11 k12 k13 k14 k15
            obtain ⟨_, _, k11, k12, k13, k14, k15⟩ := keepS HB.out HF4.out
            go_wp2_with fail
            refine (HG.out _ HF4.out).mono ?_
            rintro e w5 ⟨rfl, hF'⟩
            have HF5 := Lib.hid (HF4.out.trans hF' (fun _ _ h => h))
            clear hF' k11 k12 k13 k14 k15
            obtain ⟨_, _, k11, k12, k13, k14, k15⟩ := keepS HB.out HF5.out
            go_wp2_with fail
            refine (HCH.out _ HF5.out).mono ?_
            rintro e w6 ⟨rfl, hF'⟩
            have HF6 := Lib.hid (HF5.out.trans hF' (fun _ _ h => h))
            clear hF' k11 k12 k13 k14 k15
            obtain ⟨_, _, k11, k12, k13, k14, k15⟩ := keepS HB.out HF6.out
            go_wp2_with fail
            go_ret
            exact ⟨HA6.out, HF6.out⟩
end Go.Proofs.YtoephflcjllaaaaGreatDoor
