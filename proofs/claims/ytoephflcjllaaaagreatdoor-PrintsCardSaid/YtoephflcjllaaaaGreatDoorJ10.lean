/- The print methods of the program: a selection. -/
import Derived.Test.YtoephflcjllaaaaGreatDoorJ09
import Derived.Deep.CutRange
namespace Go.Proofs.YtoephflcjllaaaaGreatDoor
open Go.RowKit

theorem keep6 {w W : World} {b : Nat} {t : TypeId} {x0 x1 x2 x3 x4 x5 : Value} (hb : Blk w b t #[x0, x1, x2, x3, x4, x5]) (hF : Fr (fun _ => False) w W) :
    W.cell? ⟨b, 0, none⟩ = some x0 ∧ W.cell? ⟨b, 1, none⟩ = some x1 ∧ W.cell? ⟨b, 2, none⟩ = some x2 ∧ W.cell? ⟨b, 3, none⟩ = some x3 ∧ W.cell? ⟨b, 4, none⟩ = some x4 ∧ W.cell? ⟨b, 5, none⟩ = some x5 ∧ Fr (fun _ => False) w W := by
  have h := hb.fr hF (fun h => h)
  have c0 := h.cell 0
  have c1 := h.cell 1
  have c2 := h.cell 2
  have c3 := h.cell 3
  have c4 := h.cell 4
  have c5 := h.cell 5
  simp at c0 c1 c2 c3 c4 c5
  exact ⟨c0, c1, c2, c3, c4, c5, hF⟩

theorem keep6b {w W : World} {b : Nat} {t : TypeId} {x0 x1 x2 x3 x4 x5 : Value} (hb : Blk w b t #[x0, x1, x2, x3, x4, x5]) (hF : Fr (fun _ => False) w W) :
    W.cell? ⟨b, 1, none⟩ = some x1 ∧ W.cell? ⟨b, 2, none⟩ = some x2 ∧ Fr (fun _ => False) w W := by
  obtain ⟨_, h1, h2, _, _, _, h3⟩ := keep6 hb hF
  exact ⟨h1, h2, h3⟩
/-- An operand that may be absent: what stands before it, and it. -/
def optP (w : World) (x : Value) (pre s o : Bags.Str) : Prop := (x = .nilIface ∧ o = []) ∨ (Prn w x s ∧ o = pre ++ s)

set_option maxRecDepth 100000 in
set_option maxHeartbeats 2000000 in
theorem sel_any {d : Bool} {bi bs bg : Option Addr} {ni ns ng ci cs cg : Nat} {xw xh : Value} {b : Nat} {t : TypeId} {w : World} {sI sS sW sG sH oW oH : Bags.Str}
    (h : Blk w b t #[.bool d, .slice bi ni ci, .slice bs ns cs, xw, .slice bg ng cg, xh])
    (hI : ∀ W, Fr (fun _ => False) w W → Calls Tryz.prog 202 #[.slice bi ni ci, .func (.func 203) #[] #[]] W (PPost W sI))
    (hS : ∀ W, Fr (fun _ => False) w W → Calls Tryz.prog 205 #[.slice bs ns cs, .func (.func 206) #[] #[]] W (PPost W sS))
    (hG : ∀ W, Fr (fun _ => False) w W → Calls Tryz.prog 207 #[.slice bg ng cg, .func (.func 208) #[] #[]] W (PPost W sG))
    (hw : optP w xw [32, 119, 104, 101, 114, 101, 32] sW oW) (hh : optP w xh [32, 104, 97, 118, 105, 110, 103, 32] sH oH)
    (hl : sI.length + sS.length + sW.length + sG.length + sH.length ≤ 1099511627776) :
    Calls Tryz.prog 201 #[.pointer (some ⟨b, 0, none⟩)] w (PPost w
      ([115, 101, 108, 101, 99, 116, 32] ++ (if d then [100, 105, 115, 116, 105, 110, 99, 116, 32] else []) ++ (if ni = 0 then [42] else []) ++ (sI ++ [32, 102, 114, 111, 109, 32] ++ sS) ++ oW ++
        (if ng = 0 then [] else [32, 103, 114, 111, 117, 112, 32, 98, 121, 32] ++ sG) ++ oH)) := by
  have HB := Lib.hid h
  have HI := Lib.hid hI
  have HS := Lib.hid hS
  have HG := Lib.hid hG
  have HW := Lib.hid hw
  have HH := Lib.hid hh
  obtain ⟨c0, c1, c2, c3, c4, c5, _⟩ := keep6 h (Fr.refl _ _)
  clear h hI hS hG hw hh c3 c4 c5
  generalize hR : ([115, 101, 108, 101, 99, 116, 32] ++ (if d then [100, 105, 115, 116, 105, 110, 99, 116, 32] else []) ++ (if ni = 0 then [42] else []) ++ (sI ++ [32, 102, 114, 111, 109, 32] ++ sS) ++ oW ++
        (if ng = 0 then [] else [32, 103, 114, 111, 117, 112, 32, 98, 121, 32] ++ sG) ++ oH) = R
  have HR := Lib.hid hR
  clear hR
  have d0 : ([115, 101, 108, 101, 99, 116, 32] : Bags.Str).length + (if d then [100, 105, 115, 116, 105, 110, 99, 116, 32] else [] : Bags.Str).length ≤ 16 := by cases d <;> simp
  obtain ⟨D, hD⟩ : ∃ D, Hid (D = ([115, 101, 108, 101, 99, 116, 32] ++ (if d then [100, 105, 115, 116, 105, 110, 99, 116, 32] else []) : Bags.Str)) := ⟨_, Lib.hid rfl⟩
  have dD : D.length ≤ 16 := by rw [hD.out, List.length_append]; exact d0
  clear d0
  obtain ⟨A1, a1⟩ : ∃ A, Hid (A = tx D) := ⟨_, Lib.hid rfl⟩
  obtain ⟨E, hE⟩ : ∃ E, Hid (E = (if ni = 0 then [42] else [] : Bags.Str)) := ⟨_, Lib.hid rfl⟩
  have dE : E.length ≤ 1 := by rw [hE.out]; split <;> simp
  obtain ⟨A2, a2, e2⟩ := cat a1 (Lib.hid (rfl : tx E = tx E)) (by omega)
  obtain ⟨I1, i1, j1⟩ := cat (Lib.hid (rfl : tx sI = tx sI)) (Lib.hid (rfl : ⟨#[32, 102, 114, 111, 109, 32]⟩ = tx [32, 102, 114, 111, 109, 32])) (by simp; omega)
  obtain ⟨I2, i2, j2⟩ := cat i1 (Lib.hid (rfl : tx sS = tx sS)) (by simp; omega)
  obtain ⟨A3, a3, e3⟩ := cat a2 i2 (by simp; omega)
  have dW : oW.length ≤ 7 + sW.length := by rcases HW.out with ⟨_, h⟩ | ⟨_, h⟩ <;> rw [h] <;> simp <;> omega
  obtain ⟨A4, a4, e4⟩ := cat a3 (Lib.hid (rfl : tx oW = tx oW)) (by simp; omega)
  obtain ⟨G, hG⟩ : ∃ G, Hid (G = (if ng = 0 then [] else [32, 103, 114, 111, 117, 112, 32, 98, 121, 32] ++ sG : Bags.Str)) := ⟨_, Lib.hid rfl⟩
  have dG : G.length ≤ 10 + sG.length := by rw [hG.out]; split <;> simp; omega
  have dH : oH.length ≤ 8 + sH.length := by rcases HH.out with ⟨_, h⟩ | ⟨_, h⟩ <;> rw [h] <;> simp <;> omega
  obtain ⟨A5, a5, e5⟩ := cat a4 (Lib.hid (rfl : tx G = tx G)) (by simp; omega)
  obtain ⟨A6, a6, e6⟩ := cat a5 (Lib.hid (rfl : tx oH = tx oH)) (by simp; omega)
  obtain ⟨W1, w1, q1⟩ := cat (Lib.hid (rfl : ⟨#[32, 119, 104, 101, 114, 101, 32]⟩ = tx [32, 119, 104, 101, 114, 101, 32])) (Lib.hid (rfl : tx sW = tx sW)) (by simp; omega)
  obtain ⟨G1, g1, q2⟩ := cat (Lib.hid (rfl : ⟨#[32, 103, 114, 111, 117, 112, 32, 98, 121, 32]⟩ = tx [32, 103, 114, 111, 117, 112, 32, 98, 121, 32])) (Lib.hid (rfl : tx sG = tx sG)) (by simp; omega)
  obtain ⟨H1, h1, q3⟩ := cat (Lib.hid (rfl : ⟨#[32, 104, 97, 118, 105, 110, 103, 32]⟩ = tx [32, 104, 97, 118, 105, 110, 103, 32])) (Lib.hid (rfl : tx sH = tx sH)) (by simp; omega)
  have HA6 := Lib.hid (show Ending.returned (.string A6) = .returned (.string (tx R)) by rw [a6.out, hD.out, hE.out, hG.out, HR.out])
  have Q1 := Lib.hid q1
  have Q2 := Lib.hid q2
  have Q3 := Lib.hid q3
  have E4 := Lib.hid e4
  have E5 := Lib.hid e5
  have E6 := Lib.hid e6
  clear q1 q2 q3 e4 e5 e6
  go_enter Tryz.func201, Tryz.ntmps201
  go_upto_if 7 with fail
  go_cut [3] from 4 (fun v wx => v = .string A1 ∧ w = wx)
  case first =>
    cases d
    · have HA := Lib.hid (show Value.string ⟨#[115, 101, 108, 101, 99, 116, 32]⟩ = .string A1 by rw [a1.out, hD.out]; rfl)
      go_wp2_with fail
      go_meet
      case rel => exact ⟨HA.out, by trivial⟩
    · have HA := Lib.hid (show Value.string (⟨#[115, 101, 108, 101, 99, 116, 32]⟩ ++ ⟨#[100, 105, 115, 116, 105, 110, 99, 116, 32]⟩) = .string A1 by rw [a1.out, hD.out]; exact congrArg Value.string (tx_add _ _))
      go_wp2_with fail
      go_meet
      case rel => exact ⟨HA.out, by trivial⟩
  case rest =>
    obtain ⟨rfl, rfl⟩ := hcut
    go_upto_if 15 with fail
    go_cut [3] from 16 (fun v wx => v = .string A2 ∧ w = wx)
    case first =>
      by_cases hni : ni = 0
      · subst hni
        have e2' : ∀ W : World, (Op.stringOp .add A1 ⟨#[42]⟩).run Tryz.prog W = .ok (.string A2) W := fun W => by
          have := e2 W
          rw [show E = [42] from hE.out] at this
          exact this
        clear e2
        go_wp2_with fail
        go_meet
        case rel => exact ⟨by trivial, by trivial⟩
      · have HA := Lib.hid (show Value.string A1 = .string A2 by rw [a1.out, a2.out, hE.out, if_neg hni, List.append_nil])
        go_wp2_with fail
        go_meet
        case rel => exact ⟨HA.out, by trivial⟩
    case rest =>
      obtain ⟨rfl, rfl⟩ := hcut
      go_upto_region 6 with fail
      clear e2 c0 c1 c2
      go_cut [3] from 18 (fun v wx => v = .string A3 ∧ Fr (fun _ => False) w wx)
      case first =>
        go_region_held3 (fun w' => w'.cell? ⟨b, 1, none⟩ = some (.slice bi ni ci) ∧ w'.cell? ⟨b, 2, none⟩ = some (.slice bs ns cs) ∧ Fr (fun _ => False) w w')
          (first | exact keep6b HB.out (Fr.refl _ _).drew | (refine keep6b HB.out ?_; assumption))
          (first | (go_at_call 202; obtain ⟨_, _, hF⟩ := ‹_ ∧ _ ∧ Fr _ w _›; refine (HI.out _ hF).mono ?_; rintro e w2 ⟨rfl, hF'⟩; have hF2 := Fr.trans hF hF' (fun _ _ h => h)) | (go_at_call 205; obtain ⟨_, _, hF⟩ := ‹_ ∧ _ ∧ Fr _ w _›; refine (HS.out _ hF).mono ?_; rintro e w2 ⟨rfl, hF'⟩; have hF2 := Fr.trans hF hF' (fun _ _ h => h)))
        all_goals
          go_wp2_with fail
          go_meet
          case rel => exact ⟨rfl, by assumption⟩
      case rest =>
        obtain ⟨rfl, hF⟩ := hcut
        have HF3 := Lib.hid hF
        obtain ⟨_, _, _, k3, k4, k5, _⟩ := keep6 HB.out hF
        clear hF
        -- THE EIGHT WAYS
        clear k3 k4 k5 HI HS
        have hwf := HW.out
        have hhf := HH.out
        rcases hwf with ⟨rfl, hoW⟩ | ⟨⟨tpw, vw, fw, uw, rfl, naw, mw, iw, hcw⟩, hoW⟩
        · have HA4 : A3 = A4 := by rw [a3.out, a4.out, hoW, List.append_nil]
          obtain rfl := HA4
          clear hoW
          by_cases hng : ng = 0
          · have HA5 : A3 = A5 := by rw [a4.out, a5.out, hG.out, if_pos hng, List.append_nil]
            obtain rfl := HA5
            subst hng
            rcases hhf with ⟨rfl, hoH⟩ | ⟨⟨tph, vh, fh, uh, rfl, nah, mh, ih, hch⟩, hoH⟩
            · have HA : Hid (Value.string A3 = .string A6) := Lib.hid (by rw [a5.out, a6.out, hoH, List.append_nil])
              clear hoH
              obtain ⟨_, _, _, k3, k4, k5, _⟩ := keep6 HB.out HF3.out
              go_wp2_with fail
              go_ret
              exact ⟨(congrArg Ending.returned HA.out).trans HA6.out, HF3.out⟩
            · have HCH := Lib.hid hch
              have q3 := Q3.out
              have e6' : ∀ W : World, (Op.stringOp .add A3 H1).run Tryz.prog W = .ok (.string A6) W := fun W => by
                have := E6.out W
                rw [hoH, ← h1.out] at this
                exact this
              clear hoH hch
              obtain ⟨_, _, _, k3, k4, k5, _⟩ := keep6 HB.out HF3.out
              go_wp2_with fail
              refine (HCH.out _ HF3.out).mono ?_
              rintro e w3 ⟨rfl, hF'⟩
              have HF4 := Lib.hid (HF3.out.trans hF' (fun _ _ h => h))
              clear hF' k3 k4 k5
              obtain ⟨_, _, _, k3, k4, k5, _⟩ := keep6 HB.out HF4.out
              go_wp2_with fail
              go_ret
              exact ⟨HA6.out, HF4.out⟩
          · have q2 := Q2.out
            have e5' : ∀ W : World, (Op.stringOp .add A3 G1).run Tryz.prog W = .ok (.string A5) W := fun W => by
              have := E5.out W
              rw [hG.out, if_neg hng, ← g1.out] at this
              exact this
            have hng' : (0 : Int) < (ng : Int) := by omega
            rcases hhf with ⟨rfl, hoH⟩ | ⟨⟨tph, vh, fh, uh, rfl, nah, mh, ih, hch⟩, hoH⟩
            · have HA : Hid (Value.string A5 = .string A6) := Lib.hid (by rw [a5.out, a6.out, hoH, List.append_nil])
              clear hoH
              obtain ⟨_, _, _, k3, k4, k5, _⟩ := keep6 HB.out HF3.out
              go_wp2_with fail
              refine (HG.out _ HF3.out).mono ?_
              rintro e w3 ⟨rfl, hF'⟩
              have HF4 := Lib.hid (HF3.out.trans hF' (fun _ _ h => h))
              clear hF' k3 k4 k5
              obtain ⟨_, _, _, k3, k4, k5, _⟩ := keep6 HB.out HF4.out
              go_wp2_with fail
              go_ret
              exact ⟨(congrArg Ending.returned HA.out).trans HA6.out, HF4.out⟩
            · have HCH := Lib.hid hch
              have q3 := Q3.out
              have e6' : ∀ W : World, (Op.stringOp .add A5 H1).run Tryz.prog W = .ok (.string A6) W := fun W => by
                have := E6.out W
                rw [hoH, ← h1.out] at this
                exact this
              clear hoH hch
              obtain ⟨_, _, _, k3, k4, k5, _⟩ := keep6 HB.out HF3.out
              go_wp2_with fail
              refine (HG.out _ HF3.out).mono ?_
              rintro e w3 ⟨rfl, hF'⟩
              have HF4 := Lib.hid (HF3.out.trans hF' (fun _ _ h => h))
              clear hF' k3 k4 k5
              obtain ⟨_, _, _, k3, k4, k5, _⟩ := keep6 HB.out HF4.out
              go_wp2_with fail
              refine (HCH.out _ HF4.out).mono ?_
              rintro e w4 ⟨rfl, hF'⟩
              have HF5 := Lib.hid (HF4.out.trans hF' (fun _ _ h => h))
              clear hF' k3 k4 k5
              obtain ⟨_, _, _, k3, k4, k5, _⟩ := keep6 HB.out HF5.out
              go_wp2_with fail
              go_ret
              exact ⟨HA6.out, HF5.out⟩
        · have HCW := Lib.hid hcw
          have q1 := Q1.out
          have e4' : ∀ W : World, (Op.stringOp .add A3 W1).run Tryz.prog W = .ok (.string A4) W := fun W => by
            have := E4.out W
            rw [hoW, ← w1.out] at this
            exact this
          clear hoW hcw
          by_cases hng : ng = 0
          · have HA5 : A4 = A5 := by rw [a4.out, a5.out, hG.out, if_pos hng, List.append_nil]
            obtain rfl := HA5
            subst hng
            rcases hhf with ⟨rfl, hoH⟩ | ⟨⟨tph, vh, fh, uh, rfl, nah, mh, ih, hch⟩, hoH⟩
            · have HA : Hid (Value.string A4 = .string A6) := Lib.hid (by rw [a5.out, a6.out, hoH, List.append_nil])
              clear hoH
              obtain ⟨_, _, _, k3, k4, k5, _⟩ := keep6 HB.out HF3.out
              go_wp2_with fail
              refine (HCW.out _ HF3.out).mono ?_
              rintro e w3 ⟨rfl, hF'⟩
              have HF4 := Lib.hid (HF3.out.trans hF' (fun _ _ h => h))
              clear hF' k3 k4 k5
              obtain ⟨_, _, _, k3, k4, k5, _⟩ := keep6 HB.out HF4.out
              go_wp2_with fail
              go_ret
              exact ⟨(congrArg Ending.returned HA.out).trans HA6.out, HF4.out⟩
            · have HCH := Lib.hid hch
              have q3 := Q3.out
              have e6' : ∀ W : World, (Op.stringOp .add A4 H1).run Tryz.prog W = .ok (.string A6) W := fun W => by
                have := E6.out W
                rw [hoH, ← h1.out] at this
                exact this
              clear hoH hch
              obtain ⟨_, _, _, k3, k4, k5, _⟩ := keep6 HB.out HF3.out
              go_wp2_with fail
              refine (HCW.out _ HF3.out).mono ?_
              rintro e w3 ⟨rfl, hF'⟩
              have HF4 := Lib.hid (HF3.out.trans hF' (fun _ _ h => h))
              clear hF' k3 k4 k5
              obtain ⟨_, _, _, k3, k4, k5, _⟩ := keep6 HB.out HF4.out
              go_wp2_with fail
              refine (HCH.out _ HF4.out).mono ?_
              rintro e w4 ⟨rfl, hF'⟩
              have HF5 := Lib.hid (HF4.out.trans hF' (fun _ _ h => h))
              clear hF' k3 k4 k5
              obtain ⟨_, _, _, k3, k4, k5, _⟩ := keep6 HB.out HF5.out
              go_wp2_with fail
              go_ret
              exact ⟨HA6.out, HF5.out⟩
          · have q2 := Q2.out
            have e5' : ∀ W : World, (Op.stringOp .add A4 G1).run Tryz.prog W = .ok (.string A5) W := fun W => by
              have := E5.out W
              rw [hG.out, if_neg hng, ← g1.out] at this
              exact this
            have hng' : (0 : Int) < (ng : Int) := by omega
            rcases hhf with ⟨rfl, hoH⟩ | ⟨⟨tph, vh, fh, uh, rfl, nah, mh, ih, hch⟩, hoH⟩
            · have HA : Hid (Value.string A5 = .string A6) := Lib.hid (by rw [a5.out, a6.out, hoH, List.append_nil])
              clear hoH
              obtain ⟨_, _, _, k3, k4, k5, _⟩ := keep6 HB.out HF3.out
              go_wp2_with fail
              refine (HCW.out _ HF3.out).mono ?_
              rintro e w3 ⟨rfl, hF'⟩
              have HF4 := Lib.hid (HF3.out.trans hF' (fun _ _ h => h))
              clear hF' k3 k4 k5
              obtain ⟨_, _, _, k3, k4, k5, _⟩ := keep6 HB.out HF4.out
              go_wp2_with fail
              refine (HG.out _ HF4.out).mono ?_
              rintro e w4 ⟨rfl, hF'⟩
              have HF5 := Lib.hid (HF4.out.trans hF' (fun _ _ h => h))
              clear hF' k3 k4 k5
              obtain ⟨_, _, _, k3, k4, k5, _⟩ := keep6 HB.out HF5.out
              go_wp2_with fail
              go_ret
              exact ⟨(congrArg Ending.returned HA.out).trans HA6.out, HF5.out⟩
            · have HCH := Lib.hid hch
              have q3 := Q3.out
              have e6' : ∀ W : World, (Op.stringOp .add A5 H1).run Tryz.prog W = .ok (.string A6) W := fun W => by
                have := E6.out W
                rw [hoH, ← h1.out] at this
                exact this
              clear hoH hch
              obtain ⟨_, _, _, k3, k4, k5, _⟩ := keep6 HB.out HF3.out
              go_wp2_with fail
              refine (HCW.out _ HF3.out).mono ?_
              rintro e w3 ⟨rfl, hF'⟩
              have HF4 := Lib.hid (HF3.out.trans hF' (fun _ _ h => h))
              clear hF' k3 k4 k5
              obtain ⟨_, _, _, k3, k4, k5, _⟩ := keep6 HB.out HF4.out
              go_wp2_with fail
              refine (HG.out _ HF4.out).mono ?_
              rintro e w4 ⟨rfl, hF'⟩
              have HF5 := Lib.hid (HF4.out.trans hF' (fun _ _ h => h))
              clear hF' k3 k4 k5
              obtain ⟨_, _, _, k3, k4, k5, _⟩ := keep6 HB.out HF5.out
              go_wp2_with fail
              refine (HCH.out _ HF5.out).mono ?_
              rintro e w5 ⟨rfl, hF'⟩
              have HF6 := Lib.hid (HF5.out.trans hF' (fun _ _ h => h))
              clear hF' k3 k4 k5
              obtain ⟨_, _, _, k3, k4, k5, _⟩ := keep6 HB.out HF6.out
              go_wp2_with fail
              go_ret
              exact ⟨HA6.out, HF6.out⟩
end Go.Proofs.YtoephflcjllaaaaGreatDoor
