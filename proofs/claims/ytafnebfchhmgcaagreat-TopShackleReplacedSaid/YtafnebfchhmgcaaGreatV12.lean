/- The modules that have to be replaced: names that are used twice. -/
import Derived.Test.YtafnebfchhmgcaaGreatV11
namespace Go.Proofs.YtafnebfchhmgcaaGreat
open Go Go.RowKit Go.Sort Go.Shelf
set_option linter.unusedSimpArgs false
set_option linter.unusedVariables false
attribute [local go_sem] cell_if frozen_if grow_cell
theorem IndexFuncV_any (g : Nat) (cap : Array Value) (B : Nat) (A : Option Addr) (n c : Nat) (l : List Vm) (p : Vm → Bool) (w : World) (hr : Reads w B 4 A n (vms l)) (hB : B ≤ w.heap.size) (hn : n ≤ 1000) (eg : Enters Tryz.prog g) (hp : Pred Tryz.prog g #[] cap (fun x => .agg #[.string x.n, .int .i64 x.f, .int .i64 x.b, .int .i64 x.h]) l p w) :
    Calls Tryz.prog 199 #[.slice A n c, .func (.func g) #[] cap] w fun e w' => e = .returned (.int .i64 (idxP p 0 l)) ∧ Below w.heap.size w w' := by
  obtain ⟨hl, ha⟩ := vm_at hr
  have HL := Lib.hid hl
  have HA := Lib.hid ha
  have HP := Lib.hid hp
  unfold Enters at eg
  clear hl ha hp hr
  go_enter Tryz.func199, Tryz.ntmps199
  go_wp2_with fail
  go_loopw [8] (fun i wr => ∃ k : Nat, k ≤ n ∧ i = .int .i64 k ∧ idxP p 0 l = idxP p k (l.drop k) ∧ Below w.heap.size w wr) (fun i _ => n - (intOf i).toNat)
  case atStart => exact ⟨0, by omega, rfl, rfl, bl_⟩
  case round =>
    obtain ⟨k, hk, rfl, hf, hb⟩ := hrel
    have Hf := Lib.hid hf; clear hf
    have hs := hb.size
    by_cases hlt : k < n
    · have hkl : k < l.length := by rw [HL.out]; exact hlt
      have HX := HP.out wr hb l[k] (List.getElem_mem hkl)
      obtain ⟨b, o, eA, hbb, hz⟩ := HA.out k hkl
      have kb : ∀ i, wr.cell? ⟨b, i, none⟩ = w.cell? ⟨b, i, none⟩ := fun i => hb.cell (p := ⟨b, i, none⟩) (by simp; omega)
      simp only [← kb] at hz
      clear kb
      subst eA
      have Hd : Hid (l.drop k = l[k] :: l.drop (k + 1)) := List.drop_eq_getElem_cons hkl
      generalize l[k] = x at *
      (obtain ⟨z0, z1, z2, z3⟩ := hz; obtain ⟨xn, xf, xb, xh⟩ := x; dsimp only at z0 z1 z2 z3 HX)
      cases hq : p ⟨xn, xf, xb, xh⟩ with
      | true =>
        rw [hq] at HX
        have HXH := Lib.hid HX
        have HQ := Lib.hid hq
        clear HX hq
        go_wp2_with fail
        refine HXH.out.mono ?_
        rintro e w1 ⟨rfl, hb1⟩
        go_wp2_with fail
        go_ret
        exact ⟨by rw [Hf.out, Hd.out, idxP_cons, HQ.out]; rfl, bl_⟩
      | false =>
        rw [hq] at HX
        have HXH := Lib.hid HX
        have HQ := Lib.hid hq
        clear HX hq
        go_wp2_with fail
        refine HXH.out.mono ?_
        rintro e w1 ⟨rfl, hb1⟩
        go_wp2_with fail
        go_roundw
        case rel => exact ⟨k + 1, by omega, by go_num, by rw [Hf.out, Hd.out, idxP_cons, HQ.out]; rfl, bl_⟩
        case measure => simp [intOf]; omega
    · obtain rfl : k = n := by omega
      go_wp2_with fail
      go_ret
      exact ⟨by rw [Hf.out, List.drop_eq_nil_of_le (by rw [HL.out]; exact Nat.le_refl _)]; rfl, bl_⟩
theorem ContainsFuncV_any (g : Nat) (cap : Array Value) (B : Nat) (A : Option Addr) (n c : Nat) (l : List Vm) (p : Vm → Bool) (w : World) (hr : Reads w B 4 A n (vms l)) (hB : B ≤ w.heap.size) (hn : n ≤ 1000) (eg : Enters Tryz.prog g) (hp : Pred Tryz.prog g #[] cap (fun x => .agg #[.string x.n, .int .i64 x.f, .int .i64 x.b, .int .i64 x.h]) l p w) :
    Calls Tryz.prog 170 #[.slice A n c, .func (.func g) #[] cap] w fun e w' => e = .returned (.bool (l.any p)) ∧ Below w.heap.size w w' := by
  have HC := Lib.hid (IndexFuncV_any g cap B A n c l p w hr hB hn eg hp)
  rw [← idxP_any p l 0]
  clear hp hr
  generalize idxP p 0 l = q at *
  go_enter Tryz.func170, Tryz.ntmps170
  go_wp2_with (go_at_call 199; refine HC.out.mono ?_; rintro e w1 ⟨rfl, hb1⟩)
  go_ret
  exact ⟨by first | rfl | (simp; done), hb1⟩
/-- Two names are the same. -/
def sEq (a b : ByteArray) : Bool := a.toList == b.toList
set_option maxRecDepth 100000 in
set_option maxHeartbeats 1000000 in
theorem nameq_any (x m : Vm) (bx : Nat) (w : World) (hB : Blk w bx 90 #[.string m.n, .int .i64 m.f, .int .i64 m.b, .int .i64 m.h]) :
    Calls Tryz.prog 171 #[.agg #[.string x.n, .int .i64 x.f, .int .i64 x.b, .int .i64 x.h], .pointer (some ⟨bx, 0, none⟩)] w fun e w' => e = .returned (.bool (sEq x.n m.n)) ∧ Below w.heap.size w w' := by
  have cB := hB.cell
  have lB := hB.lt
  obtain ⟨xn, xf, xb, xh⟩ := x
  obtain ⟨mn, mf, mb, mh⟩ := m
  dsimp only at cB ⊢
  clear hB
  go_enter Tryz.func171, Tryz.ntmps171
  go_wp2_with fail
  go_ret
  exact ⟨by first | rfl | (unfold sEq; rfl) | (unfold sEq; simp), bl_⟩
theorem reads_vms {w : World} {B n k : Nat} {A : Option Addr} {l : List Vm} (h : Reads w B 4 A n (vms l)) (hk : k ≤ n) : Reads w B 4 A k (vms (l.take k)) := by
  obtain ⟨h1, h2⟩ := h
  have hl : l.length = n := by
    have e := h1
    unfold vms at e
    rw [flat_len (f := Vm.cells) (m := 4) (fun _ => rfl)] at e
    omega
  have ht : vms l = vms (l.take k) ++ vms (l.drop k) := by
    unfold vms
    rw [← List.flatMap_append, List.take_append_drop]
  have hlen : (vms (l.take k)).length = k * 4 := by
    unfold vms
    rw [flat_len (f := Vm.cells) (m := 4) (fun _ => rfl), List.length_take]
    omega
  refine ⟨hlen, fun hpos => ?_⟩
  obtain ⟨b, o, e, hb, hc⟩ := h2 (by omega)
  refine ⟨b, o, e, hb, fun j u hu => hc j u ?_⟩
  rw [ht, List.getElem?_append_left (by rw [hlen]; have := (List.getElem?_eq_some_iff.1 hu).1; rw [hlen] at this; exact this)]
  exact hu
theorem wp_bsN {P : Program} {o : Oper} {a : Act} {w : World} {K : Act → World → Prop} {Q : Exit → Act → World → Prop} (t e : TypeId) (n : Nat) (parts : Array (Nat × Operand)) (vs : Array (Nat × Value)) (cells : Array Value) (ho : o.op = .buildSlice t n parts) (hx : (parts.map fun (i, x) => (i, a.eval x)) = vs)
    (hr : (Instr.buildSlice t n vs).run P w = .ok (.slice (some ⟨w.heap.size, 0, none⟩) n n) (w.alloc (.cells cells e))) (h : K (a.put o.dst (.slice (some ⟨w.heap.size, 0, none⟩) n n)) (w.alloc (.cells cells e))) : o.wp P a w K Q := by
  subst hx
  unfold Oper.wp execOp
  simp only [ho, Sem.run_bind, hr, Result.andThen_ok]
  exact h
/-- A module without an error. -/
structure VmOk (x : Vm) : Prop where
  nm : nameB x.n = true
  sz : x.n.size ≤ maxLen
  f : 0 ≤ x.f ∧ x.f ≤ 100000
  b : 0 ≤ x.b ∧ x.b ≤ 100000
  h : 1 ≤ x.h ∧ x.h ≤ 100
  o : x.f ≤ x.b
set_option maxRecDepth 100000 in
set_option maxHeartbeats 4000000 in
theorem clm_any (i bx B : Nat) (x : Vm) (A : Option Addr) (n c : Nat) (l : List Vm) (w : World) (hB : Blk w bx 87 #[.slice A n c]) (hr : Reads w B 4 A n (vms l)) (hBw : B ≤ w.heap.size) (hi : i ≤ n) (hc : n ≤ c) (h8 : n ≤ 8) (hx : VmOk x) (hq : ∀ y ∈ l.take i, sEq y.n x.n = false) :
    Calls Tryz.prog 169 #[.int .i64 (i : Int), .agg #[.string x.n, .int .i64 x.f, .int .i64 x.b, .int .i64 x.h], .pointer (some ⟨bx, 0, none⟩)] w fun e w' => e = .returned (.int .i64 0) ∧ Below w.heap.size w w' := by
  have hany : (l.take i).any (fun y => sEq y.n x.n) = false := by
    rw [List.any_eq_false]
    intro y hy
    rw [hq y hy]
    decide
  have HCf := Lib.hid (fun W (hW : Below w.heap.size w W) bm (hbm : Blk W bm 90 #[.string x.n, .int .i64 x.f, .int .i64 x.b, .int .i64 x.h]) => ContainsFuncV_any 171 #[.pointer (some ⟨bm, 0, none⟩)] B A i c (l.take i) (fun y => sEq y.n x.n) W ((reads_vms hr hi).below (hW.mono hBw)) (by have := hW.size; omega) (by omega) (enters_of Tryz.func171 (by kernel_rfl) rfl) (fun W2 hW2 y _ => nameq_any y x bm W2 (hbm.kept hW2)))
  rw [hany] at HCf
  have HN := Lib.hid (fun W => IsName_any x.n W hx.sz)
  rw [hx.nm] at HN
  have e1 := Lib.hid (ckR_yes (n := x.f) (lo := 0) (hi := 100000) hx.f)
  have e2 := Lib.hid (ckR_yes (n := x.b) (lo := 0) (hi := 100000) hx.b)
  have e3 := Lib.hid (ckR_yes (n := x.h) (lo := 1) (hi := 100) hx.h)
  have hd : ¬ x.b < x.f := by have := hx.o; omega
  have e4 : whenE (decide (x.b < x.f)) 11 = 0 := by rw [decide_eq_false hd]; rfl
  obtain ⟨xn, xf, xb, xh⟩ := x
  dsimp only at HCf HN e1 e2 e3 hd e4 ⊢
  clear hr hx hq hany
  have cB := hB.cell
  have lB := hB.lt
  have q1 : i ≤ c := by omega
  have q2 : ¬ (c < i) := by omega
  have q3 : ¬ ((c : Int) < (i : Int)) := by omega
  have q4 : (i : Int) ≤ (c : Int) := by omega
  have q5 : (0 : Int) ≤ (i : Int) := by omega
  go_enter Tryz.func169, Tryz.ntmps169
  go_wp2_with fail
  refine (HCf.out _ bl_ w.heap.size (Blk.new _ _ _)).mono ?_
  rintro e w1 ⟨rfl, hb1⟩
  have HA := Lib.hid (show Blk w1 w.heap.size 90 #[.string xn, .int .i64 xf, .int .i64 xb, .int .i64 xh] from bk_)
  have HL := Lib.hid (show Below w.heap.size w w1 from bl_)
  clear hb1 cB lB hB HCf
  have cA := HA.out.cell
  have lA := HA.out.lt
  go_upto_region 2 with fail
  go_cut [5] (fun s5 wx => s5 = .int .i64 0 ∧ Below w1.heap.size w1 wx)
  case first =>
    as_aux_lemma =>
      go_wp2_with fail
      (refine wp_region_calm [] [0, 1, 2, 3, 4, 5, 6, 7, 8, 9, 10, 11, 12, 13, 14, 15, 16, 17, 18, 19, 20, 21] 3 (by kernel_rfl) rfl (by kernel_rfl) (by kernel_rfl) (by kernel_rfl) ?_; simp only [pickB, List.filterMap_cons, List.filterMap_nil, List.getElem?_toArray, List.getElem?_cons_zero, List.getElem?_cons_succ]; (repeat (first | ((first | (with_reducible refine quietL_plain rfl (fun K hK => ?_)) | (with_reducible refine quietL_want (by with_unfolding_all rfl) (fun K hK => ?_))); (apply Exists.intro; refine ⟨fun wx hx => ?_, ?_⟩; (· (have hcx := ifs_ex hx); simp [go_sem, *, ↓IntWalk.iteOmega] <;> (first | rfl | exact ⟨rfl, rfl⟩ | (first | (with_reducible exact calls_B (vwithin_b _ _ _ _)) | (with_reducible exact calls_B (calls_below (vwhen_any _ _ _))) | (with_reducible exact calls_B (HN.out _))))); (simp only [Act.put, List.setIfInBounds_toArray, List.set_cons_zero, List.set_cons_succ]; refine hK _ ?_; clear hK K))) | ((with_reducible refine quietL_skip (by with_unfolding_all rfl) ?_); simp only [Act.put, List.setIfInBounds_toArray, List.set_cons_zero, List.set_cons_succ]))); refine quietL_nil ?_)
      rw [e1.out, e2.out, e3.out, e4]
      (try rw [show whenE false 8 = 0 from rfl])
      (try rw [show whenE false 9 = 0 from rfl])
      refine anyB_one (i := 22) (by kernel_rfl) rfl rfl ?_
      intro w2 hb2 K hK
      have HP1 := Lib.hid (hb2.trans (((Below.refl _ _).alloc (Nat.le_refl _) (.cells #[.int .i64 0, .int .i64 0, .int .i64 0, .int .i64 0, .int .i64 0, .int .i64 0] 31)).mono hb2.size))
      have HF := Lib.hid (Blk.new w2 31 #[.int .i64 0, .int .i64 0, .int .i64 0, .int .i64 0, .int .i64 0, .int .i64 0])
      refine wp_bsN 187 31 6 _ #[(0, .int .i64 0), (1, .int .i64 0), (2, .int .i64 0), (3, .int .i64 0), (4, .int .i64 0), (5, .int .i64 0)] #[.int .i64 0, .int .i64 0, .int .i64 0, .int .i64 0, .int .i64 0, .int .i64 0] rfl (by simp [go_sem, Act.eval]) (by kernel_rfl) ?_
      refine hK _ _ ⟨Ex.of_below HP1.out, ?_⟩
      clear hb2 hK K
      refine anyB_one (i := 23) (by kernel_rfl) rfl rfl ?_
      intro w3 hb3 K hK
      have HP2 := Lib.hid (HP1.out.trans (hb3.mono HP1.out.size))
      have HF2 := HF.out.kept hb3
      have hr2 : Reads w3 (w2.heap.size + 1) 1 (some ⟨w2.heap.size, 0, none⟩) 6 (([0, 0, 0, 0, 0, 0] : List Int).map (.int .i64)) := Reads.blk HF2 rfl
      go_wp2_with fail
      refine (vfirst_any _ _ 6 6 [0, 0, 0, 0, 0, 0] w3 hr2 (by unfold maxLen; omega)).mono ?_
      rw [show firstE [0, 0, 0, 0, 0, 0] = 0 from rfl]
      rintro e w4 ⟨rfl, rfl⟩
      go_wp2
      have hx2 := Ex.of_below (X := []) HP2.out
      refine ⟨hx2, ?_⟩
      clear hb3
      (refine anyB_one (i := 24) (by kernel_rfl) rfl rfl ?_; intro w5 hb5 K hK; have hs5 := hb5.size; (try simp at hs5); go_wp2; refine ⟨xs_, ?_⟩)
      (refine anyB_end (by kernel_rfl) ?_; intro w6 hb6; have hs6 := hb6.size; (try simp at hs6); simp only [Calm])
      have HP5 := Lib.hid ((HP2.out.trans (hb5.mono HP2.out.size)).trans (hb6.mono (by have := HP2.out.size; omega)))
      go_wp2_with fail
      go_meet
      case rel => exact ⟨rfl, HP5.out⟩
  rename World => W2
  obtain ⟨rfl, hb⟩ := hcut
  have HL2 := Lib.hid (HL.out.trans (hb.mono HL.out.size))
  clear hb cA lA
  go_wp2_with fail
  go_ret
  exact ⟨rfl, HL2.out⟩
end Go.Proofs.YtafnebfchhmgcaaGreat
