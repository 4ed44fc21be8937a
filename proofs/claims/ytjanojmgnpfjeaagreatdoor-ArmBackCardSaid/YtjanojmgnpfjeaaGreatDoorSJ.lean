/- The program's read: the first line of an arm's text. -/
import Derived.Test.YtjanojmgnpfjeaaGreatDoorSI
import Derived.Test.YtjanojmgnpfjeaaGreatDoorSC
import Derived.Deep.DeepCutAuto
import Derived.Deep.CutBlock
namespace Go.Proofs.YtjanojmgnpfjeaaGreatDoor
open Go.RowKit Go.Sort Go.Shelf
set_option linter.unusedSimpArgs false
set_option linter.unusedVariables false
attribute [local go_sem] cell_if frozen_if grow_cell
def WsB (M : Nat) (st : List ByteArray × Bool) : Prop := ∀ x ∈ st.1, x.size ≤ M
theorem tk_b {M : Nat} {st : List ByteArray × Bool} (h : WsB M st) : (tk st).1.size ≤ M ∧ WsB M (tk st).2 := by
  obtain ⟨l, q⟩ := st
  cases l with
  | nil => exact ⟨Nat.zero_le _, fun x hx => by cases hx⟩
  | cons x r =>
    cases hx : (x.toList == []) with
    | true => rw [tk_no hx]; exact ⟨Nat.zero_le _, fun x hx => by cases hx⟩
    | false => rw [tk_ok hx]; exact ⟨h x (List.mem_cons_self ..), fun z hz => h z (List.mem_cons_of_mem _ hz)⟩
theorem tkN_b {M : Nat} {st : List ByteArray × Bool} (h : WsB M st) : WsB M (tkN st) := (tk_b h).2
theorem spTo_b (s : ByteArray) (c : Nat) : ∀ k, k ≤ s.size → ∀ x ∈ spTo s c k, x.size ≤ k
  | 0, _, x, hx => by
    unfold spTo at hx
    rw [List.mem_singleton.1 hx]
    exact Nat.le_refl _
  | k + 1, h, x, hx => by
    have ih := spTo_b s c k (by omega)
    have hl := spTo_last s c k (by omega)
    unfold spTo at hx
    split at hx
    · rcases List.mem_append.1 hx with h1 | h1
      · have := ih x h1; omega
      · rw [List.mem_singleton.1 h1]; exact Nat.zero_le _
    · rcases List.mem_append.1 hx with h1 | h1
      · have := ih x (List.dropLast_subset _ h1); omega
      · rw [List.mem_singleton.1 h1, ByteArray.size_append, ByteArray.size_extract]; omega
theorem intOk_ne {x : ByteArray} (h : intOk x.data.toList = true) : (x.toList == []) = false := by
  cases hx : (x.toList == []) with
  | false => rfl
  | true => rw [intOk_no hx] at h; cases h
def headV (y : Ar) (ws : List ByteArray) : Ar := ⟨y.m, decV (nAt ws 1), decV (nAt ws 2), decV (nAt ws 3), decV (nAt ws 4)⟩
theorem head_vals {ws : List ByteArray} (h : headR ws = true) : rawV (tk (tk (ws, false)).2).1 = decV (nAt ws 1) ∧ rawV (tk (tkN (tk (ws, false)).2)).1 = decV (nAt ws 2) ∧ rawV (tk (tkN (tkN (tk (ws, false)).2))).1 = decV (nAt ws 3) ∧ rawV (tk (tkN (tkN (tkN (tk (ws, false)).2)))).1 = decV (nAt ws 4) := by
  unfold headR at h
  simp only [Bool.and_eq_true, beq_iff_eq] at h
  obtain ⟨⟨hl, h0⟩, hd⟩ := h
  match ws, hl with
  | [x0, x1, x2, x3, x4], _ =>
    simp only [List.drop_succ_cons, List.drop_zero, List.all_cons, List.all_nil, Bool.and_eq_true] at hd
    obtain ⟨i1, i2, i3, i4, _⟩ := hd
    have e0 : (x0.toList == []) = false := by
      have : x0.toList = armW := h0
      rw [this]; rfl
    rw [tk_ok e0]
    show rawV (tk ([x1, x2, x3, x4], false)).1 = _ ∧ rawV (tk (tkN ([x1, x2, x3, x4], false))).1 = _ ∧ rawV (tk (tkN (tkN ([x1, x2, x3, x4], false)))).1 = _ ∧ rawV (tk (tkN (tkN (tkN ([x1, x2, x3, x4], false))))).1 = _
    rw [(tkN_cons x1 _ false).1 i1, (tkN_cons x2 _ false).1 i2, (tkN_cons x3 _ false).1 i3, tk_ok (intOk_ne i1), tk_ok (intOk_ne i2), tk_ok (intOk_ne i3), tk_ok (intOk_ne i4)]
    exact ⟨raw_ok i1, raw_ok i2, raw_ok i3, raw_ok i4⟩
theorem mod_vals {ws : List ByteArray} (h : modR ws = true) : (tk (tk (ws, false)).2).1 = wAt ws 1 ∧ rawV (tk (tk (tk (ws, false)).2).2).1 = decV (nAt ws 2) ∧ (tk (tkN (tk (tk (ws, false)).2).2)).1 = wAt ws 3 := by
  unfold modR at h
  simp only [Bool.and_eq_true, beq_iff_eq] at h
  obtain ⟨⟨⟨⟨hl, h0⟩, h1⟩, h2⟩, h3⟩ := h
  match ws, hl with
  | [x0, x1, x2, x3], _ =>
    have e0 : (x0.toList == []) = false := by
      have : x0.toList = modW := h0
      rw [this]; rfl
    have e1 : (x1.toList == []) = false := by
      have : (!x1.toList == []) = true := h1
      simpa using this
    have i2 : intOk x2.data.toList = true := h2
    have e3 : (x3.toList == []) = false := by
      cases hx : (x3.toList == []) with
      | false => rfl
      | true =>
        have h3 : stW x3.toList = true := h3
        rw [eq_of_beq hx] at h3
        exact absurd h3 (by decide)
    rw [tk_ok e0]
    show (tk ([x1, x2, x3], false)).1 = _ ∧ rawV (tk (tk ([x1, x2, x3], false)).2).1 = _ ∧ (tk (tkN (tk ([x1, x2, x3], false)).2)).1 = _
    rw [tk_ok e1]
    show x1 = _ ∧ rawV (tk ([x2, x3], false)).1 = _ ∧ (tk (tkN ([x2, x3], false))).1 = _
    rw [(tkN_cons x2 _ false).1 i2, tk_ok (intOk_ne i2), tk_ok e3]
    exact ⟨rfl, raw_ok i2, rfl⟩
set_option maxRecDepth 100000 in
set_option maxHeartbeats 4000000 in
theorem readH_any (base g : Nat) (y : Ar) (v : Value) (s : ByteArray) (w : World) (hA : ArO base g y v w) (hb : base ≤ w.heap.size) (hg : g < base) (hs : s.size ≤ 90000) :
    Calls Tryz.prog 85 #[.pointer (some ⟨g, 0, none⟩), .string s, .bool true] w fun e w' => ∃ y', e = .returned (.bool (headR (spL s 32))) ∧ ArO base g y' v w' ∧ Fr1 base g w w' ∧ (headR (spL s 32) = true → y' = headV y (spL s 32)) := by
  have hwl := (spTo_len s 32 s.size).2
  have hwb : WsB 90000 (spL s 32, false) := fun x hx => Nat.le_trans (spTo_b s 32 s.size (Nat.le_refl _) x hx) hs
  have HSp := Lib.hid (fun W => SSplit_any s W (by omega))
  change (spL s 32).length ≤ s.size + 1 at hwl
  generalize spL s 32 = ws at *
  have HA := Lib.hid hA
  have HWB := Lib.hid hwb
  have HV := Lib.hid (fun h => head_vals (ws := ws) h)
  have HE := Lib.hid (head_eq ws)
  have HPe : Hid (headP ws = (((tk (ws, false)).1.toList == armW) && !(tkN (tkN (tkN (tkN (tk (ws, false)).2)))).2 && (tkN (tkN (tkN (tkN (tk (ws, false)).2)))).1.isEmpty)) := Lib.hid rfl
  have hgl := hA.box.lt
  clear hA hwb
  go_enter Tryz.func85, Tryz.ntmps85
  go_wp2_with fail
  refine (HSp.out _).mono ?_
  rintro e w1 ⟨gw, cap, rfl, hc, hr, ⟨hgw0, hgw⟩, hb1⟩
  have hs1 := hb1.size
  have HR := Lib.hid hr
  clear hr
  go_wp2_with fail
--WALK
  have hle1 : w.heap.size ≤ w1.heap.size := hs1
  have HS0 : Hid (RdW base g w1.heap.size w.heap.size (ws, false) y v w (w1.alloc (.cells #[.slice (some ⟨gw, 0, none⟩) ws.length cap, .bool false] 199))) := Lib.hid
    ⟨⟨some ⟨gw, 0, none⟩, ws.length, cap, bk_, hc, (HR.out.more (B' := w1.heap.size) (by omega)).alloc (Nat.le_refl _) _, fun a e => by cases e; exact hgw0⟩, HA.out.kept bl_, (Fr1.refl base g w hb).below bl_, hle1, Nat.le_refl _, hg⟩
  clear HR hc hgw0 hgw hb1 HSp hs1
  generalize w1.heap.size = bt at *
  generalize w1.alloc (.cells #[.slice (some ⟨gw, 0, none⟩) ws.length cap, .bool false] 199) = wa at *
  refine (tword_any bt w.heap.size (ws, false) wa HS0.out.tk (by show ws.length ≤ _; omega)).mono ?_
  rintro e w2 ⟨rfl, ht2, hx2⟩
  have HS1 := Lib.hid (HS0.out.word hx2 ht2)
  have hwb2 := tk_b HWB.out
  have HLn := Lib.hid (tk_len (ws, false))
  clear ht2 hx2 HS0 HWB
  rw [HE.out] at HPe
  generalize (tk (ws, false)).2 = st1 at *
  have hst : st1.1.length ≤ 90001 := by have := HLn.out; dsimp only at this; omega
  obtain ⟨hk0, hwb1⟩ := hwb2
  have HB1 := Lib.hid hwb1
  generalize (tk (ws, false)).1 = k at *
  clear HLn hwl hwb1 hk0
  have lg2 := HS1.out.ar.box.lt
  have cg2 := HS1.out.ar.box.cell
  have fg2 := HS1.out.ar.box.frozen
  go_wp2_with fail
  have hbk : (k.toList == [97, 114, 109]) = (k.toList == armW) := rfl
  rw [← hbk] at HPe
  clear hbk
  generalize (k.toList == [97, 114, 109]) = q at *
  have hl1 := tk_len st1
  have hb1 := tk_b HB1.out
  refine (tint_any bt w.heap.size st1 _ HS1.out.tk (by omega) (Nat.le_trans hb1.1 (by unfold maxLen; decide))).mono ?_
  rintro e u1 ⟨rfl, ht, hx⟩
  have HT1 := Lib.hid (HS1.out.word hx ht)
  have HB2 := Lib.hid (tkN_b HB1.out)
  have hst1 : (tkN st1).1.length ≤ 90001 := by show (tk st1).2.1.length ≤ _; omega
  clear ht hx HS1 hb1 hl1 lg2 cg2 fg2
  generalize hr1 : rawV (tk st1).1 = r1 at *
  have HV1 : Hid (rawV (tk st1).1 = r1) := Lib.hid hr1
  clear hr1
  have lg2 := HT1.out.ar.box.lt
  have cg2 := HT1.out.ar.box.cell
  have fg2 := HT1.out.ar.box.frozen
  go_wp2_with fail
  have HS2 := Lib.hid (HT1.out.put 1 (.int .i64 r1) (HT1.out.ar.lo r1))
  clear HT1
  generalize tkN st1 = st2 at *
  have hl2 := tk_len st2
  have hb2 := tk_b HB2.out
  refine (tint_any bt w.heap.size st2 _ HS2.out.tk (by omega) (Nat.le_trans hb2.1 (by unfold maxLen; decide))).mono ?_
  rintro e u2 ⟨rfl, ht, hx⟩
  have HT2 := Lib.hid (HS2.out.word hx ht)
  have HB3 := Lib.hid (tkN_b HB2.out)
  have hst2 : (tkN st2).1.length ≤ 90001 := by show (tk st2).2.1.length ≤ _; omega
  clear ht hx HS2 hb2 hl2 lg2 cg2 fg2
  generalize hr2 : rawV (tk st2).1 = r2 at *
  have HV2 : Hid (rawV (tk st2).1 = r2) := Lib.hid hr2
  clear hr2
  have lg2 := HT2.out.ar.box.lt
  have cg2 := HT2.out.ar.box.cell
  have fg2 := HT2.out.ar.box.frozen
  go_wp2_with fail
  have HS3 := Lib.hid (HT2.out.put 2 (.int .i64 r2) (HT2.out.ar.hi r2))
  clear HT2
  generalize tkN st2 = st3 at *
  have hl3 := tk_len st3
  have hb3 := tk_b HB3.out
  refine (tint_any bt w.heap.size st3 _ HS3.out.tk (by omega) (Nat.le_trans hb3.1 (by unfold maxLen; decide))).mono ?_
  rintro e u3 ⟨rfl, ht, hx⟩
  have HT3 := Lib.hid (HS3.out.word hx ht)
  have HB4 := Lib.hid (tkN_b HB3.out)
  have hst3 : (tkN st3).1.length ≤ 90001 := by show (tk st3).2.1.length ≤ _; omega
  clear ht hx HS3 hb3 hl3 lg2 cg2 fg2
  generalize hr3 : rawV (tk st3).1 = r3 at *
  have HV3 : Hid (rawV (tk st3).1 = r3) := Lib.hid hr3
  clear hr3
  have lg2 := HT3.out.ar.box.lt
  have cg2 := HT3.out.ar.box.cell
  have fg2 := HT3.out.ar.box.frozen
  go_wp2_with fail
  have HS4 := Lib.hid (HT3.out.put 3 (.int .i64 r3) (HT3.out.ar.cur r3))
  clear HT3
  generalize tkN st3 = st4 at *
  have hl4 := tk_len st4
  have hb4 := tk_b HB4.out
  refine (tint_any bt w.heap.size st4 _ HS4.out.tk (by omega) (Nat.le_trans hb4.1 (by unfold maxLen; decide))).mono ?_
  rintro e u4 ⟨rfl, ht, hx⟩
  have HT4 := Lib.hid (HS4.out.word hx ht)
  have HB5 := Lib.hid (tkN_b HB4.out)
  have hst4 : (tkN st4).1.length ≤ 90001 := by show (tk st4).2.1.length ≤ _; omega
  clear ht hx HS4 hb4 hl4 lg2 cg2 fg2
  generalize hr4 : rawV (tk st4).1 = r4 at *
  have HV4 : Hid (rawV (tk st4).1 = r4) := Lib.hid hr4
  clear hr4
  have lg2 := HT4.out.ar.box.lt
  have cg2 := HT4.out.ar.box.cell
  have fg2 := HT4.out.ar.box.frozen
  have HS5 := Lib.hid (HT4.out.put 4 (.int .i64 r4) (HT4.out.ar.lim r4))
  clear HT4
  generalize tkN st4 = st5 at *
  obtain ⟨r5, q5⟩ := st5
  obtain ⟨A, n, c, bt5, hnc, hrr, hL⟩ := HS5.out.tk
  have hn5 : r5.length = n := by have := hrr.1; simpa using this
  have ct := bt5.cell
  have ft := bt5.frozen
  have lt := bt5.lt
  have HAr := Lib.hid HS5.out.ar
  have HFr := Lib.hid HS5.out.fr
  dsimp only at HPe
  clear bt5 hrr hL HS5
  have hem : r5.isEmpty = ((n : Int) == 0) := by
    rw [← hn5]
    cases r5 with
    | nil => rfl
    | cons x l => exact (beq_eq_false_iff_ne.2 (by simp; omega)).symm
  cases q <;> cases q5
  all_goals
    go_wp2_with fail
    go_ret
    exact ⟨⟨y.m, r1, r2, r3, r4⟩, by rw [HPe.out, hem]; rfl, HAr.out, HFr.out, fun h => by
      obtain ⟨v1, v2, v3, v4⟩ := HV.out h
      rw [v1, v2, v3, v4]
      rfl⟩
end Go.Proofs.YtjanojmgnpfjeaaGreatDoor
