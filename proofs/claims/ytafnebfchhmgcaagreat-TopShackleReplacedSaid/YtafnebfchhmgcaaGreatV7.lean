/- Outages: the program's check. -/
import Derived.Test.YtafnebfchhmgcaaGreatV6
import Derived.Laws.EntriesVeiled
import Derived.Deep.DeepCutAuto
namespace Go.Proofs.YtafnebfchhmgcaaGreat
open Go Go.RowKit Go.Sort
set_option linter.unusedSimpArgs false
set_option linter.unusedVariables false
attribute [local go_sem] cell_if frozen_if grow_cell
/-- Outages without an error. -/
structure OutOk (l : List Ot) : Prop where
  t : ∀ x ∈ l, 0 ≤ x.t ∧ x.t ≤ 100000
  h : ∀ x ∈ l, 0 ≤ x.h ∧ x.h ≤ 100
  c : ∀ x ∈ l, 0 ≤ x.c ∧ x.c ≤ 1000000
  up : ∀ i, (h : i + 1 < l.length) → l[i].t < l[i + 1].t
  len : l.length ≤ 6
theorem ck_of {z lo hi : Int} (h : ckR z lo hi = 0) : lo ≤ z ∧ z ≤ hi := by
  by_cases h1 : lo ≤ z ∧ z ≤ hi
  · exact h1
  · rw [ckR_no (by omega)] at h
    cases h
theorem first_all : ∀ {zs : List Int}, firstE zs = 0 → ∀ z ∈ zs, z = 0 := fun {zs} h z hz => by
  unfold firstE at h
  cases hf : zs.find? (· != 0) with
  | none =>
    have := List.find?_eq_none.1 hf z hz
    simpa using this
  | some y =>
    rw [hf] at h
    have h1 := List.find?_some hf
    simp at h h1
    exact absurd h h1
theorem out_ok {l : List Ot} (h : outE l = 0) (h6 : l.length ≤ 6) : OutOk l := by
  have hall : ∀ k, k < l.length → otE l k = 0 := fun k hk => first_all h _ (List.mem_map.2 ⟨k, List.mem_range.2 hk, rfl⟩)
  have h4 : ∀ k, (hk : k < l.length) → ckR l[k].t 0 100000 = 0 ∧ ckR l[k].h 0 100 = 0 ∧ ckR l[k].c 0 1000000 = 0 := fun k hk => by
    have := hall k hk
    match k, hk with
    | 0, hk =>
      have e : firstE [ckR l[0].t 0 100000, ckR l[0].h 0 100, ckR l[0].c 0 1000000, 0] = 0 := by
        have h2 : (match l[0]? with | some x => firstE [ckR x.t 0 100000, ckR x.h 0 100, ckR x.c 0 1000000, 0] | none => 0) = 0 := this
        rw [List.getElem?_eq_getElem hk] at h2
        exact h2
      exact ⟨first_all e _ (by simp), first_all e _ (by simp), first_all e _ (by simp)⟩
    | j + 1, hk =>
      have hj : j < l.length := by omega
      have e : firstE [ckR l[j + 1].t 0 100000, ckR l[j + 1].h 0 100, ckR l[j + 1].c 0 1000000, whenE (decide (l[j + 1].t ≤ l[j].t)) 11] = 0 := by
        have h2 : (match l[j]?, l[j + 1]? with | some y, some x => firstE [ckR x.t 0 100000, ckR x.h 0 100, ckR x.c 0 1000000, whenE (decide (x.t ≤ y.t)) 11] | _, _ => 0) = 0 := this
        rw [List.getElem?_eq_getElem hk, List.getElem?_eq_getElem hj] at h2
        exact h2
      exact ⟨first_all e _ (by simp), first_all e _ (by simp), first_all e _ (by simp)⟩
  refine ⟨fun x hx => ?_, fun x hx => ?_, fun x hx => ?_, fun i hi => ?_, h6⟩
  · obtain ⟨k, hk, rfl⟩ := List.getElem_of_mem hx
    exact ck_of (h4 k hk).1
  · obtain ⟨k, hk, rfl⟩ := List.getElem_of_mem hx
    exact ck_of (h4 k hk).2.1
  · obtain ⟨k, hk, rfl⟩ := List.getElem_of_mem hx
    exact ck_of (h4 k hk).2.2
  · have hj : i < l.length := by omega
    have e : firstE [ckR l[i + 1].t 0 100000, ckR l[i + 1].h 0 100, ckR l[i + 1].c 0 1000000, whenE (decide (l[i + 1].t ≤ l[i].t)) 11] = 0 := by
      have h2 : (match l[i]?, l[i + 1]? with | some y, some x => firstE [ckR x.t 0 100000, ckR x.h 0 100, ckR x.c 0 1000000, whenE (decide (x.t ≤ y.t)) 11] | _, _ => 0) = 0 := hall (i + 1) hi
      rw [List.getElem?_eq_getElem hi, List.getElem?_eq_getElem hj] at h2
      exact h2
    have h1 := first_all e (whenE (decide (l[i + 1].t ≤ l[i].t)) 11) (by simp)
    unfold whenE at h1
    split at h1
    · cases h1
    · rename_i hd
      simp at hd
      omega
set_option maxRecDepth 100000 in
set_option maxHeartbeats 2000000 in
theorem clo_any (i t h p last : Int) (bx : Nat) (w : World) (hB : Blk w bx 3 #[.int .i64 last]) (ht : 0 ≤ t ∧ t ≤ 100000) (hh : 0 ≤ h ∧ h ≤ 100) (hp : 0 ≤ p ∧ p ≤ 1000000) (hl : last < t) :
    Calls Tryz.prog 173 #[.int .i64 i, .agg #[.int .i64 t, .int .i64 h, .int .i64 p], .pointer (some ⟨bx, 0, none⟩)] w fun e w' => e = .returned (.int .i64 0) ∧ Blk w' bx 3 #[.int .i64 t] ∧ Ex [bx] w w' := by
  have e1 := Lib.hid (ckR_yes (n := t) (lo := 0) (hi := 100000) ht)
  have e2 := Lib.hid (ckR_yes (n := h) (lo := 0) (hi := 100) hh)
  have e4 := Lib.hid (ckR_yes (n := p) (lo := 0) (hi := 1000000) hp)
  have hd : ¬ t ≤ last := by omega
  have e3 : whenE (decide (t ≤ last)) 11 = 0 := by rw [decide_eq_false hd]; rfl
  have hlt := hB.lt
  go_enter Tryz.func173, Tryz.ntmps173
  go_upto_region 1 with fail
  refine wp_world ?_
  intro W0 hW0
  have HA := Lib.hid (show Blk W0 w.heap.size 109 #[.int .i64 t, .int .i64 h, .int .i64 p] from by rw [hW0]; exact Blk.new _ _ _)
  have HB := Lib.hid (show Blk W0 bx 3 #[.int .i64 last] from by rw [hW0]; exact hB.alloc _)
  have HL := Lib.hid (show Below w.heap.size w W0 from by rw [hW0]; exact bl_)
  clear hW0 hB
  have cA := HA.out.cell
  have lA := HA.out.lt
  have cB := HB.out.cell
  have lB := HB.out.lt
  go_cut [6] (fun s6 wx => s6 = .int .i64 0 ∧ Below W0.heap.size W0 wx)
  case first =>
    go_wp2_with fail
    (refine wp_region_calm [] [0, 1, 2, 3, 4, 5, 6, 7, 8, 9, 10, 11, 12, 13] 3 (by kernel_rfl) rfl (by kernel_rfl) (by kernel_rfl) (by kernel_rfl) ?_; simp only [pickB, List.filterMap_cons, List.filterMap_nil, List.getElem?_toArray, List.getElem?_cons_zero, List.getElem?_cons_succ]; (repeat (first | ((first | (with_reducible refine quietL_plain rfl (fun K hK => ?_)) | (with_reducible refine quietL_want (by with_unfolding_all rfl) (fun K hK => ?_))); (apply Exists.intro; refine ⟨fun wx hx => ?_, ?_⟩; (· (have hcx := ifs_ex hx); simp [go_sem, *, ↓IntWalk.iteOmega] <;> (first | rfl | exact ⟨rfl, rfl⟩ | (first | (with_reducible exact calls_B (vwithin_b _ _ _ _)) | (with_reducible exact calls_B (calls_below (vwhen_any _ _ _)))))); (simp only [Act.put, List.setIfInBounds_toArray, List.set_cons_zero, List.set_cons_succ]; refine hK _ ?_; clear hK K))) | ((with_reducible refine quietL_skip (by with_unfolding_all rfl) ?_); simp only [Act.put, List.setIfInBounds_toArray, List.set_cons_zero, List.set_cons_succ]))); refine quietL_nil ?_)
    rw [e1.out, e2.out, e4.out, e3]
    refine anyB_one (i := 14) (by kernel_rfl) rfl rfl ?_
    intro w1 hb1 K hK
    have HP1 := Lib.hid (hb1.trans (((Below.refl _ _).alloc (Nat.le_refl _) (.cells #[.int .i64 0, .int .i64 0, .int .i64 0, .int .i64 0] 31)).mono hb1.size))
    have HF := Lib.hid (Blk.new w1 31 #[.int .i64 0, .int .i64 0, .int .i64 0, .int .i64 0])
    go_wp2
    refine ⟨Ex.of_below HP1.out, ?_⟩
    clear hb1
    refine anyB_one (i := 15) (by kernel_rfl) rfl rfl ?_
    intro w2 hb2 K hK
    have HP2 := Lib.hid (HP1.out.trans (hb2.mono HP1.out.size))
    have HF2 := HF.out.kept hb2
    have hr2 : Reads w2 (w1.heap.size + 1) 1 (some ⟨w1.heap.size, 0, none⟩) 4 (([0, 0, 0, 0] : List Int).map (.int .i64)) := Reads.blk HF2 rfl
    go_wp2_with fail
    refine (vfirst_any _ _ 4 4 [0, 0, 0, 0] w2 hr2 (by unfold maxLen; omega)).mono ?_
    rw [show firstE [0, 0, 0, 0] = 0 from rfl]
    rintro e w3 ⟨rfl, rfl⟩
    go_wp2
    have hx2 := Ex.of_below (X := []) HP2.out
    refine ⟨hx2, ?_⟩
    clear hb2
    (refine anyB_one (i := 16) (by kernel_rfl) rfl rfl ?_; intro w4 hb4 K hK; have hs4 := hb4.size; (try simp at hs4); go_wp2; refine ⟨xs_, ?_⟩)
    (refine anyB_end (by kernel_rfl) ?_; intro w5 hb5; have hs5 := hb5.size; (try simp at hs5); simp only [Calm])
    have HP5 := Lib.hid ((HP2.out.trans (hb4.mono HP2.out.size)).trans (hb5.mono (by have := HP2.out.size; omega)))
    go_wp2_with fail
    go_meet
    case rel => exact ⟨rfl, HP5.out⟩
  rename World => W1
  obtain ⟨rfl, hb⟩ := hcut
  have HA1 := Lib.hid (HA.out.kept hb)
  have HB1 := Lib.hid (HB.out.kept hb)
  have HL1 := Lib.hid (HL.out.trans (hb.mono HL.out.size))
  clear cA lA cB lB hb HA HB HL
  have cA := HA1.out.cell
  have lA := HA1.out.lt
  have cB := HB1.out.cell
  have fB := HB1.out.frozen
  have lB := HB1.out.lt
  go_wp2_with fail
  go_ret
  exact ⟨rfl, HB1.out.set_ 0 _, Ex.set_in (by simp) (Ex.of_below HL1.out) _⟩
/-- The last tick of the first pulses. -/
def lastO (l : List Ot) : Nat → Int
  | 0 => -1
  | k + 1 => (l[k]?.map Ot.t).getD 0
set_option maxRecDepth 100000 in
set_option maxHeartbeats 4000000 in
theorem eachO_any (B : Nat) (A : Option Addr) (n c bx : Nat) (l : List Ot) (w : World) (hT : OutOk l) (hr : Reads w B 3 A n (ots l)) (hB : B ≤ bx) (hx : Blk w bx 3 #[.int .i64 (-1)]) :
    Calls Tryz.prog 172 #[.slice A n c, .func (.func 173) #[] #[.pointer (some ⟨bx, 0, none⟩)]] w fun e w' => e = .returned (.int .i64 0) ∧ Ex [bx] w w' := by
  obtain ⟨hl, ha⟩ := ot_at hr
  have HL := Lib.hid hl
  have HA := Lib.hid ha
  have HT := Lib.hid hT
  have h6 := hT.len
  have hxl := hx.lt
  rw [hl] at h6
  clear hl ha hr hT
  go_enter Tryz.func172, Tryz.ntmps172
  go_wp2_with fail
  go_loopw [10] (fun i wr => ∃ k : Nat, k ≤ n ∧ i = .int .i64 k ∧ Blk wr bx 3 #[.int .i64 (lastO l k)] ∧ Ex [bx] w wr) (fun i _ => n - (intOf i).toNat)
  case atStart => exact ⟨0, by omega, rfl, hx, Ex.refl _ _⟩
  case round =>
    obtain ⟨k, hk, rfl, hb, he⟩ := hrel
    have hes := he.size
    have HE := Lib.hid he
    have HBx := Lib.hid hb
    clear hb he
    by_cases hlt : k < n
    · have hkl : k < l.length := by rw [HL.out]; exact hlt
      obtain ⟨b, o, rfl, hbb, z0, z1, z2⟩ := HA.out k hkl
      have kb : ∀ i, wr.cell? ⟨b, i, none⟩ = w.cell? ⟨b, i, none⟩ := fun i => World.cell?_of_block (w := w) (HE.out.block b (by omega) (by simp; omega))
      rw [← kb] at z0 z1 z2
      clear kb
      have h1 := HT.out.t _ (List.getElem_mem hkl)
      have h2 := HT.out.c _ (List.getElem_mem hkl)
      have h5 := HT.out.h _ (List.getElem_mem hkl)
      have h3 : lastO l k < l[k].t := by
        match k, hkl with
        | 0, _ => show (-1 : Int) < _; omega
        | k + 1, hkl =>
          show (l[k]?.map Ot.t).getD 0 < _
          rw [List.getElem?_eq_getElem (by omega)]
          exact HT.out.up k hkl
      have h4 : Hid (lastO l (k + 1) = l[k].t) := Lib.hid (by show (l[k]?.map Ot.t).getD 0 = _; rw [List.getElem?_eq_getElem hkl]; rfl)
      generalize lastO l k = last at *
      generalize l[k] = x at *
      obtain ⟨t, h, p⟩ := x
      dsimp only at z0 z1 z2 h1 h2 h3 h4 h5
      have HC := Lib.hid (clo_any k t h p last bx (wr.alloc (.cells #[.int .i64 t, .int .i64 h, .int .i64 p] 109)) (HBx.out.alloc _) h1 h5 h2 h3)
      go_wp2_with fail
      refine HC.out.mono ?_
      rintro e w1 ⟨rfl, hb1, he1⟩
      have HE1 := Lib.hid ((HE.out.grown ((Below.refl _ _).alloc (Nat.le_refl _) (.cells #[.int .i64 t, .int .i64 h, .int .i64 p] 109))).then he1)
      have HB1 := Lib.hid hb1
      clear hb1 he1 HC
      go_wp2_with fail
      go_roundw
      case rel => exact ⟨k + 1, by omega, by go_num, by rw [h4.out]; exact HB1.out, HE1.out⟩
      case measure => simp [intOf]; omega
    · obtain rfl : k = n := by omega
      go_wp2_with fail
      go_ret
      exact ⟨rfl, HE.out⟩
set_option maxRecDepth 100000 in
set_option maxHeartbeats 4000000 in
theorem CheckOutO_any (B : Nat) (A : Option Addr) (n c : Nat) (l : List Ot) (w : World) (hT : OutOk l) (hr : Reads w B 3 A n (ots l)) (hB : B ≤ w.heap.size) :
    Calls Tryz.prog 147 #[.slice A n c] w fun e w' => e = .returned (.int .i64 0) ∧ Below w.heap.size w w' := by
  have hl := (ot_at hr).1
  have h6 := hT.len
  rw [hl] at h6
  have HE := Lib.hid (eachO_any B A n c w.heap.size l (w.alloc (.cells #[.int .i64 (-1)] 3)) hT (hr.alloc hB _) hB (Blk.new _ _ _))
  clear hr hT hl
  go_enter Tryz.func147, Tryz.ntmps147
  go_wp2_with fail
  refine HE.out.mono ?_
  rintro e w1 ⟨rfl, he⟩
  have hb := ((Below.refl w.heap.size w).alloc (Nat.le_refl _) (.cells #[.int .i64 (-1)] 3)).trans (he.lows (by simp) (by simp))
  have HB := Lib.hid hb
  clear he hb
  go_wp2_with fail
  go_ret
  exact ⟨rfl, HB.out⟩
end Go.Proofs.YtafnebfchhmgcaaGreat
