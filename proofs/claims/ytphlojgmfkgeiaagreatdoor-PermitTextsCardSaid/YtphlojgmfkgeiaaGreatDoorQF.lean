/- Reference: whether a line's words have the form of a line. -/
import Derived.Test.YtphlojgmfkgeiaaGreatDoorQS
import Derived.Test.YtphlojgmfkgeiaaGreatDoorKl
import Derived.Deep.DeepCutAuto
import Derived.Deep.CutBlock
namespace Go.Proofs.YtphlojgmfkgeiaaGreatDoor
open Go.RowKit Go.Sort Go.Shelf
set_option linter.unusedSimpArgs false
set_option linter.unusedVariables false
attribute [local go_sem] cell_if frozen_if grow_cell
def sectionL : List UInt8 := [115, 101, 99, 116, 105, 111, 110]
def permitL : List UInt8 := [112, 101, 114, 109, 105, 116]
def openL : List UInt8 := [111, 112, 101, 110]
def closedL : List UInt8 := [99, 108, 111, 115, 101, 100]
def sourceL : List UInt8 := [115, 111, 117, 114, 99, 101]
def plainL : List UInt8 := [112, 108, 97, 105, 110]
/-- The form: by the first word, the last one, and how many there are. -/
def frmK (a z : List UInt8) (n : Nat) : Bool :=
 (a == sectionL && n == 3 && (z == sourceL || z == plainL)) || (a == permitL && n == 3) || (a == earthL && n == 4 && (z == openL || z == closedL)) || ((a == breakerL || a == isolatorL) && n == 5 && (z == openL || z == closedL))
def frm (ws : List ByteArray) : Bool := ws.all (fun x => !(x.toList == [])) && frmK (ws.head?.getD ⟨#[]⟩).toList (lastB ws).toList ws.length
theorem frm_no {ws : List ByteArray} {k : Nat} (hk : k < ws.length) (h : (ws[k].toList == []) = true) : frm ws = false := by
 unfold frm
 have : ws.all (fun x => !(x.toList == [])) = false := by
  rw [List.all_eq_false]
  exact ⟨ws[k], List.getElem_mem hk, by rw [h]; decide⟩
 rw [this, Bool.false_and]
theorem frm_yes {ws : List ByteArray} (h : ∀ k (hk : k < ws.length), (ws[k].toList == []) = false) : frm ws = frmK (ws.head?.getD ⟨#[]⟩).toList (lastB ws).toList ws.length := by
 unfold frm
 have : ws.all (fun x => !(x.toList == [])) = true := by
  rw [List.all_eq_true]
  intro x hx
  obtain ⟨k, hk, rfl⟩ := List.getElem_of_mem hx
  rw [h k hk]
  rfl
 rw [this, Bool.true_and]
theorem word_any (q : Bool) (a b : ByteArray) (w : World) : Calls Tryz.prog 150 #[.bool q, .string a, .string b] w fun e w' => e = .returned (.string (if q then a else b)) ∧ w = w' := by
 cases q
 all_goals
  go_enter Tryz.func150, Tryz.ntmps150
  go_wp2
  go_ret
  exact ⟨rfl, rfl⟩
set_option maxRecDepth 100000 in
set_option maxHeartbeats 4000000 in
theorem formed_any (A : Option Addr) (n c : Nat) (ws : List ByteArray) (w : World) (hr : Reads w w.heap.size 1 A n (ws.map .string)) (h0 : 0 < n) (hn : n ≤ 1000000) :
 Calls Tryz.prog 151 #[.slice A n c] w fun e w' => e = .returned (.bool (frm ws)) ∧ w = w' := by
 have hl : ws.length = n := by simpa using hr.1
 have Hl := Lib.hid hl
 clear hl
 go_enter Tryz.func151, Tryz.ntmps151
 go_wp2
 go_loop [3] (fun i => ∃ k : Nat, k ≤ n ∧ i = .int .i64 k ∧ ∀ j (hj : j < ws.length), j < k → (ws[j].toList == []) = false) (fun i => n - (intOf i).toNat)
 case atStart => exact ⟨0, Nat.zero_le _, rfl, fun j _ h => absurd h (by omega)⟩
 case round =>
  obtain ⟨k, hk, rfl, hf⟩ := hrel
  have Hf := Lib.hid hf
  clear hf
  by_cases hlt : k < n
  · skip
    as_aux_lemma =>
     obtain ⟨b, o, u, rfl, _, hu, hc⟩ := hr.at_ hlt
     have hkl : k < ws.length := by rw [Hl.out]; exact hlt
     obtain rfl : u = .string ws[k] := by simpa [hkl] using hu.symm
     have HNo := Lib.hid (fun (h : (ws[k].toList == []) = true) => frm_no hkl h)
     have HYe := Lib.hid (fun (h : (ws[k].toList == []) = false) (j : Nat) (hj : j < ws.length) (hjk : j < k + 1) => (by
      rcases Nat.lt_or_ge j k with h1 | h1
      · exact Hf.out j hj h1
      · obtain rfl : j = k := by omega
        exact h : (ws[j].toList == []) = false))
     clear hu
     generalize ws[k] = x at *
     cases hz : (x.toList == []) with
     | true =>
      go_wp2
      go_ret
      exact ⟨by rw [HNo.out hz]; rfl, rfl⟩
     | false =>
      have HY := Lib.hid (HYe.out hz)
      go_wp2
      go_round
      case rel => exact ⟨k + 1, by omega, by go_num, HY.out⟩
      case measure => simp [intOf]; omega
  · skip
    as_aux_lemma =>
     have hkn : k = n := by omega
     subst hkn
     have hF := frm_yes (ws := ws) (fun j hj => Hf.out j hj (by rw [← Hl.out]; exact hj))
     have HF := Lib.hid hF
     obtain ⟨b, o, u, eA, _, hu, hc0⟩ := hr.at_ h0
     obtain ⟨b', o', u', eA', _, hu', hc1⟩ := hr.at_ (show k - 1 < k by omega)
     subst eA
     cases eA'
     have hl0 : 0 < ws.length := by rw [Hl.out]; exact h0
     obtain rfl : u = .string (ws.head?.getD ⟨#[]⟩) := by
      rw [List.getElem?_map] at hu
      cases ws with
      | nil => exact absurd hl0 (by decide)
      | cons a r => simpa using hu.symm
     obtain rfl : u' = .string (lastB ws) := by
      rw [List.getElem?_map, ← Hl.out, last_at hl0] at hu'
      simpa using hu'.symm
     rw [Hl.out] at HF
     clear hu hu' hF hlt hl0 hr
     generalize ws.head?.getD ⟨#[]⟩ = a at *
     generalize lastB ws = z at *
     clear Hf
     have HKf : Hid (frm ws = frmK a.toList z.toList k) := HF
     clear HF
     obtain ⟨m, rfl⟩ : ∃ m, k = m + 1 := ⟨k - 1, by omega⟩
     simp only [Nat.add_sub_cancel] at hc1
     have hwr : IntKind.i64.wrap ((m : Int) + 1 - 1) = (m : Int) := by rw [IntKind.wrap_i64]; omega
     rw [Nat.add_zero] at hc0
     have HKf : Hid (frm ws = frmK a.toList z.toList (m + 1)) := HKf
     clear Hl
     go_upto_region 7 with fail
     generalize hzo : (z.toList == [111, 112, 101, 110]) = zo at *
     generalize hzc : (z.toList == [99, 108, 111, 115, 101, 100]) = zc at *
     go_cut [5] (fun s5 wx => s5 = .bool (zo || zc) ∧ wx = w)
     case first =>
      as_aux_lemma =>
       cases zo <;> cases zc
       all_goals
        go_wp2_with fail
        go_meet
        case rel => exact ⟨by first | rfl | (simp; done), rfl⟩
     obtain ⟨rfl, rfl⟩ := hcut
     rename World => w
     have HQ : Hid ((z.toList == openL || z.toList == closedL) = (zo || zc)) := by show (z.toList == [111, 112, 101, 110] || z.toList == [99, 108, 111, 115, 101, 100]) = _; rw [hzo, hzc]
     clear hzo hzc
     generalize (zo || zc) = q at *
     have hm : m = 2 ∨ m = 3 ∨ m = 4 ∨ (m + 1 ≠ 3 ∧ m + 1 ≠ 4 ∧ m + 1 ≠ 5) := by omega
     as_aux_lemma =>
      cases k1 : (a.toList == [115, 101, 99, 116, 105, 111, 110]) with
      | true =>
       have k2 : (a.toList == [112, 101, 114, 109, 105, 116]) = false := by rw [eq_of_beq k1]; rfl
       have k3 : (a.toList == [101, 97, 114, 116, 104]) = false := by rw [eq_of_beq k1]; rfl
       have k4 : (a.toList == [98, 114, 101, 97, 107, 101, 114]) = false := by rw [eq_of_beq k1]; rfl
       have k5 : (a.toList == [105, 115, 111, 108, 97, 116, 111, 114]) = false := by rw [eq_of_beq k1]; rfl
       have HE : Hid (frm ws = ((m + 1 == 3) && (z.toList == sourceL || z.toList == plainL))) := by
        show _ = _
        rw [HKf.out, frmK, HQ.out, show (a.toList == sectionL) = true from k1, show (a.toList == permitL) = false from k2, show (a.toList == earthL) = false from k3, show (a.toList == breakerL) = false from k4, show (a.toList == isolatorL) = false from k5]
        simp
       clear HKf HQ
       have HE2 := HE
       clear HE
       rcases hm with rfl | rfl | rfl | ⟨hm3, hm4, hm5⟩
       · cases hzs : (z.toList == [115, 111, 117, 114, 99, 101]) <;> cases hzp : (z.toList == [112, 108, 97, 105, 110])
         all_goals
          go_wp2_with fail
          go_ret
          exact ⟨by rw [HE2.out, show (z.toList == sourceL) = _ from hzs, show (z.toList == plainL) = _ from hzp]; first | rfl | (simp; done), rfl⟩
       · skip
         go_wp2_with fail
         go_ret
         exact ⟨by rw [HE2.out]; first | rfl | (simp; done), rfl⟩
       · skip
         go_wp2_with fail
         go_ret
         exact ⟨by rw [HE2.out]; first | rfl | (simp; done), rfl⟩
       · skip
         have hi3 : (((m : Int) + 1) == 3) = false := by simp; omega
         have hi4 : (((m : Int) + 1) == 4) = false := by simp; omega
         have hi5 : (((m : Int) + 1) == 5) = false := by simp; omega
         have hj3 : (m + 1 == 3) = false := by simp; omega
         have hj4 : (m + 1 == 4) = false := by simp; omega
         have hj5 : (m + 1 == 5) = false := by simp; omega
         try rw [hj3, Bool.false_and] at HE2
         try rw [hj4, Bool.false_and] at HE2
         try rw [hj5, Bool.false_and] at HE2
         try rw [hj3] at HE2
         clear hj3 hj4 hj5 hm3 hm4 hm5
         go_wp2_with fail
         go_ret
         exact ⟨by rw [HE2.out]; first | rfl | (simp; done), rfl⟩
      | false =>
       cases k2 : (a.toList == [112, 101, 114, 109, 105, 116]) with
       | true =>
        have k3 : (a.toList == [101, 97, 114, 116, 104]) = false := by rw [eq_of_beq k2]; rfl
        have k4 : (a.toList == [98, 114, 101, 97, 107, 101, 114]) = false := by rw [eq_of_beq k2]; rfl
        have k5 : (a.toList == [105, 115, 111, 108, 97, 116, 111, 114]) = false := by rw [eq_of_beq k2]; rfl
        have HE2 : Hid (frm ws = (m + 1 == 3)) := by
         show _ = _
         rw [HKf.out, frmK, HQ.out, show (a.toList == sectionL) = false from k1, show (a.toList == permitL) = true from k2, show (a.toList == earthL) = false from k3, show (a.toList == breakerL) = false from k4, show (a.toList == isolatorL) = false from k5]
         simp
        clear HKf HQ
        rcases hm with rfl | rfl | rfl | ⟨hm3, hm4, hm5⟩
        · skip
          go_wp2_with fail
          go_ret
          exact ⟨by rw [HE2.out]; first | rfl | (simp; done), rfl⟩
        · skip
          go_wp2_with fail
          go_ret
          exact ⟨by rw [HE2.out]; first | rfl | (simp; done), rfl⟩
        · skip
          go_wp2_with fail
          go_ret
          exact ⟨by rw [HE2.out]; first | rfl | (simp; done), rfl⟩
        · skip
          have hi3 : (((m : Int) + 1) == 3) = false := by simp; omega
          have hi4 : (((m : Int) + 1) == 4) = false := by simp; omega
          have hi5 : (((m : Int) + 1) == 5) = false := by simp; omega
          have hj3 : (m + 1 == 3) = false := by simp; omega
          have hj4 : (m + 1 == 4) = false := by simp; omega
          have hj5 : (m + 1 == 5) = false := by simp; omega
          try rw [hj3, Bool.false_and] at HE2
          try rw [hj4, Bool.false_and] at HE2
          try rw [hj5, Bool.false_and] at HE2
          try rw [hj3] at HE2
          clear hj3 hj4 hj5 hm3 hm4 hm5
          go_wp2_with fail
          go_ret
          exact ⟨by rw [HE2.out]; first | rfl | (simp; done), rfl⟩
       | false =>
        cases k3 : (a.toList == [101, 97, 114, 116, 104]) with
        | true =>
         have k4 : (a.toList == [98, 114, 101, 97, 107, 101, 114]) = false := by rw [eq_of_beq k3]; rfl
         have k5 : (a.toList == [105, 115, 111, 108, 97, 116, 111, 114]) = false := by rw [eq_of_beq k3]; rfl
         have HE2 : Hid (frm ws = ((m + 1 == 4) && q)) := by
          show _ = _
          rw [HKf.out, frmK, HQ.out, show (a.toList == sectionL) = false from k1, show (a.toList == permitL) = false from k2, show (a.toList == earthL) = true from k3, show (a.toList == breakerL) = false from k4, show (a.toList == isolatorL) = false from k5]
          simp
         clear HKf HQ
         cases q
         all_goals
          rcases hm with rfl | rfl | rfl | ⟨hm3, hm4, hm5⟩
          · skip
            go_wp2_with fail
            go_ret
            exact ⟨by rw [HE2.out]; first | rfl | (simp; done), rfl⟩
          · skip
            go_wp2_with fail
            go_ret
            exact ⟨by rw [HE2.out]; first | rfl | (simp; done), rfl⟩
          · skip
            go_wp2_with fail
            go_ret
            exact ⟨by rw [HE2.out]; first | rfl | (simp; done), rfl⟩
          · skip
            have hi3 : (((m : Int) + 1) == 3) = false := by simp; omega
            have hi4 : (((m : Int) + 1) == 4) = false := by simp; omega
            have hi5 : (((m : Int) + 1) == 5) = false := by simp; omega
            have hj3 : (m + 1 == 3) = false := by simp; omega
            have hj4 : (m + 1 == 4) = false := by simp; omega
            have hj5 : (m + 1 == 5) = false := by simp; omega
            try rw [hj3, Bool.false_and] at HE2
            try rw [hj4, Bool.false_and] at HE2
            try rw [hj5, Bool.false_and] at HE2
            try rw [hj3] at HE2
            clear hj3 hj4 hj5 hm3 hm4 hm5
            go_wp2_with fail
            go_ret
            exact ⟨by rw [HE2.out]; first | rfl | (simp; done), rfl⟩
        | false =>
         cases k4 : (a.toList == [98, 114, 101, 97, 107, 101, 114]) with
         | true =>
          have k5 : (a.toList == [105, 115, 111, 108, 97, 116, 111, 114]) = false := by rw [eq_of_beq k4]; rfl
          have HE2 : Hid (frm ws = ((m + 1 == 5) && q)) := by
           show _ = _
           rw [HKf.out, frmK, HQ.out, show (a.toList == sectionL) = false from k1, show (a.toList == permitL) = false from k2, show (a.toList == earthL) = false from k3, show (a.toList == breakerL) = true from k4, show (a.toList == isolatorL) = false from k5]
           simp
          clear HKf HQ
          cases q
          all_goals
           rcases hm with rfl | rfl | rfl | ⟨hm3, hm4, hm5⟩
           · skip
             go_wp2_with fail
             go_ret
             exact ⟨by rw [HE2.out]; first | rfl | (simp; done), rfl⟩
           · skip
             go_wp2_with fail
             go_ret
             exact ⟨by rw [HE2.out]; first | rfl | (simp; done), rfl⟩
           · skip
             go_wp2_with fail
             go_ret
             exact ⟨by rw [HE2.out]; first | rfl | (simp; done), rfl⟩
           · skip
             have hi3 : (((m : Int) + 1) == 3) = false := by simp; omega
             have hi4 : (((m : Int) + 1) == 4) = false := by simp; omega
             have hi5 : (((m : Int) + 1) == 5) = false := by simp; omega
             have hj3 : (m + 1 == 3) = false := by simp; omega
             have hj4 : (m + 1 == 4) = false := by simp; omega
             have hj5 : (m + 1 == 5) = false := by simp; omega
             try rw [hj3, Bool.false_and] at HE2
             try rw [hj4, Bool.false_and] at HE2
             try rw [hj5, Bool.false_and] at HE2
             try rw [hj3] at HE2
             clear hj3 hj4 hj5 hm3 hm4 hm5
             go_wp2_with fail
             go_ret
             exact ⟨by rw [HE2.out]; first | rfl | (simp; done), rfl⟩
         | false =>
          cases k5 : (a.toList == [105, 115, 111, 108, 97, 116, 111, 114]) with
          | true =>
           have HE2 : Hid (frm ws = ((m + 1 == 5) && q)) := by
            show _ = _
            rw [HKf.out, frmK, HQ.out, show (a.toList == sectionL) = false from k1, show (a.toList == permitL) = false from k2, show (a.toList == earthL) = false from k3, show (a.toList == breakerL) = false from k4, show (a.toList == isolatorL) = true from k5]
            simp
           clear HKf HQ
           cases q
           all_goals
            rcases hm with rfl | rfl | rfl | ⟨hm3, hm4, hm5⟩
            · skip
              go_wp2_with fail
              go_ret
              exact ⟨by rw [HE2.out]; first | rfl | (simp; done), rfl⟩
            · skip
              go_wp2_with fail
              go_ret
              exact ⟨by rw [HE2.out]; first | rfl | (simp; done), rfl⟩
            · skip
              go_wp2_with fail
              go_ret
              exact ⟨by rw [HE2.out]; first | rfl | (simp; done), rfl⟩
            · skip
              have hi3 : (((m : Int) + 1) == 3) = false := by simp; omega
              have hi4 : (((m : Int) + 1) == 4) = false := by simp; omega
              have hi5 : (((m : Int) + 1) == 5) = false := by simp; omega
              have hj3 : (m + 1 == 3) = false := by simp; omega
              have hj4 : (m + 1 == 4) = false := by simp; omega
              have hj5 : (m + 1 == 5) = false := by simp; omega
              try rw [hj3, Bool.false_and] at HE2
              try rw [hj4, Bool.false_and] at HE2
              try rw [hj5, Bool.false_and] at HE2
              try rw [hj3] at HE2
              clear hj3 hj4 hj5 hm3 hm4 hm5
              go_wp2_with fail
              go_ret
              exact ⟨by rw [HE2.out]; first | rfl | (simp; done), rfl⟩
          | false =>
           have HE2 : Hid (frm ws = false) := by
            show _ = _
            rw [HKf.out, frmK, HQ.out, show (a.toList == sectionL) = false from k1, show (a.toList == permitL) = false from k2, show (a.toList == earthL) = false from k3, show (a.toList == breakerL) = false from k4, show (a.toList == isolatorL) = false from k5]
            simp
           clear HKf HQ hm
           go_wp2_with fail
           go_ret
           exact ⟨by rw [HE2.out]; first | rfl | (simp; done), rfl⟩
end Go.Proofs.YtphlojgmfkgeiaaGreatDoor
