/- Trains: the check. A pulse is two numbers (as an order): its tick and its valves. -/
import Derived.Test.YtafnebfchhmgcaaGreatV1
import Derived.Test.YtafnebfchhmgcaaGreatQj
import Derived.Laws.EntriesVeiled
import Derived.Deep.DeepCutAuto
namespace Go.Proofs.YtafnebfchhmgcaaGreat
open Go Go.RowKit Go.Sort
set_option linter.unusedSimpArgs false
set_option linter.unusedVariables false
attribute [local go_sem] cell_if frozen_if grow_cell
theorem Ex.blk {X : List Nat} {w w' : World} (h : Ex X w w') {k t : Nat} {c : Array Value} (hk : Blk w k t c) (hn : k ∉ X) : Blk w' k t c := (h.block k hk.lt hn).trans hk
theorem Ex.lows {X : List Nat} {w w' : World} {B : Nat} (h : Ex X w w') (hB : B ≤ w.heap.size) (hX : ∀ k ∈ X, B ≤ k) : Below B w w' :=
  ⟨h.os, h.tape, h.output, h.size, fun k hk => h.block k (by omega) (fun hm => by have := hX k hm; omega)⟩
theorem Ex.then {X : List Nat} {a b c : World} (h : Ex X a b) (k : Ex X b c) : Ex X a c :=
  ⟨k.os.trans h.os, k.tape.trans h.tape, k.output.trans h.output, Nat.le_trans h.size k.size, fun i hi hn => (k.block i (Nat.lt_of_lt_of_le hi h.size) hn).trans (h.block i hi hn)⟩
set_option maxRecDepth 100000 in
set_option maxHeartbeats 2000000 in
theorem clt_any (i t p last : Int) (bx : Nat) (w : World) (hB : Blk w bx 3 #[.int .i64 last]) (ht : 0 ≤ t ∧ t ≤ 100000) (hp : 0 ≤ p ∧ p ≤ 4095) (hl : last < t) :
    Calls Tryz.prog 144 #[.int .i64 i, .agg #[.int .i64 t, .int .i64 p], .pointer (some ⟨bx, 0, none⟩)] w fun e w' => e = .returned (.int .i64 0) ∧ Blk w' bx 3 #[.int .i64 t] ∧ Ex [bx] w w' := by
  have e1 := Lib.hid (ckR_yes (n := t) (lo := 0) (hi := 100000) ht)
  have e2 := Lib.hid (ckR_yes (n := p) (lo := 0) (hi := 4095) hp)
  have hd : ¬ t ≤ last := by omega
  have e3 : whenE (decide (t ≤ last)) 11 = 0 := by rw [decide_eq_false hd]; rfl
  have hlt := hB.lt
  go_enter Tryz.func144, Tryz.ntmps144
  go_upto_region 1 with fail
  refine wp_world ?_
  intro W0 hW0
  have HA := Lib.hid (show Blk W0 w.heap.size 98 #[.int .i64 t, .int .i64 p] from by rw [hW0]; exact Blk.new _ _ _)
  have HB := Lib.hid (show Blk W0 bx 3 #[.int .i64 last] from by rw [hW0]; exact hB.alloc _)
  have HL := Lib.hid (show Below w.heap.size w W0 from by rw [hW0]; exact bl_)
  clear hW0 hB
  have cA := HA.out.cell
  have lA := HA.out.lt
  have cB := HB.out.cell
  have lB := HB.out.lt
  go_cut [6] (fun s6 wx => s6 = .int .i64 0 ∧ Below W0.heap.size W0 wx)
  case first =>
    go_wp2_with fail
    (refine wp_region_calm [] [0, 1, 2, 3, 4, 5, 6, 7, 8, 9, 10] 3 (by kernel_rfl) rfl (by kernel_rfl) (by kernel_rfl) (by kernel_rfl) ?_; simp only [pickB, List.filterMap_cons, List.filterMap_nil, List.getElem?_toArray, List.getElem?_cons_zero, List.getElem?_cons_succ]; (repeat (first | ((first | (with_reducible refine quietL_plain rfl (fun K hK => ?_)) | (with_reducible refine quietL_want (by with_unfolding_all rfl) (fun K hK => ?_))); (apply Exists.intro; refine ⟨fun wx hx => ?_, ?_⟩; (· (have hcx := ifs_ex hx); simp [go_sem, *, ↓IntWalk.iteOmega] <;> (first | rfl | exact ⟨rfl, rfl⟩ | (first | (with_reducible exact calls_B (vwithin_b _ _ _ _)) | (with_reducible exact calls_B (calls_below (vwhen_any _ _ _)))))); (simp only [Act.put, List.setIfInBounds_toArray, List.set_cons_zero, List.set_cons_succ]; refine hK _ ?_; clear hK K))) | ((with_reducible refine quietL_skip (by with_unfolding_all rfl) ?_); simp only [Act.put, List.setIfInBounds_toArray, List.set_cons_zero, List.set_cons_succ]))); refine quietL_nil ?_)
    rw [e1.out, e2.out, e3]
    refine anyB_one (i := 11) (by kernel_rfl) rfl rfl ?_
    intro w1 hb1 K hK
    have HP1 := Lib.hid (hb1.trans (((Below.refl _ _).alloc (Nat.le_refl _) (.cells #[.int .i64 0, .int .i64 0, .int .i64 0] 31)).mono hb1.size))
    have HF := Lib.hid (Blk.new w1 31 #[.int .i64 0, .int .i64 0, .int .i64 0])
    go_wp2
    refine ⟨Ex.of_below HP1.out, ?_⟩
    clear hb1
    refine anyB_one (i := 12) (by kernel_rfl) rfl rfl ?_
    intro w2 hb2 K hK
    have HP2 := Lib.hid (HP1.out.trans (hb2.mono HP1.out.size))
    have HF2 := HF.out.kept hb2
    have hr2 : Reads w2 (w1.heap.size + 1) 1 (some ⟨w1.heap.size, 0, none⟩) 3 (([0, 0, 0] : List Int).map (.int .i64)) := Reads.blk HF2 rfl
    go_wp2_with fail
    refine (vfirst_any _ _ 3 3 [0, 0, 0] w2 hr2 (by unfold maxLen; omega)).mono ?_
    rw [show firstE [0, 0, 0] = 0 from rfl]
    rintro e w3 ⟨rfl, rfl⟩
    go_wp2
    have hx2 := Ex.of_below (X := []) HP2.out
    refine ⟨hx2, ?_⟩
    clear hb2
    (refine anyB_one (i := 13) (by kernel_rfl) rfl rfl ?_; intro w4 hb4 K hK; have hs4 := hb4.size; (try simp at hs4); go_wp2; refine ⟨xs_, ?_⟩)
    (refine anyB_end (by kernel_rfl) ?_; intro w5 hb5; have hs5 := hb5.size; (try simp at hs5); simp only [Calm])
    have HP5 := Lib.hid ((HP2.out.trans (hb4.mono HP2.out.size)).trans (hb5.mono (by have := HP2.out.size; omega)))
    go_wp2_with fail
    go_meet
    case rel => exact ⟨rfl, HP5.out⟩
  rename World => W1
  obtain ⟨rfl, hb⟩ := hcut
  have HA1 := Lib.hid (HA.out.kept hb)
  have HB1 := Lib.hid (HB.out.kept hb)
  have HL1 := Lib.hid (HL.out.trans (hb.mono HL.out.size))
  clear cA lA cB lB hb HA HB HL
  have cA := HA1.out.cell
  have lA := HA1.out.lt
  have cB := HB1.out.cell
  have fB := HB1.out.frozen
  have lB := HB1.out.lt
  go_wp2_with fail
  go_ret
  exact ⟨rfl, HB1.out.set_ 0 _, Ex.set_in (by simp) (Ex.of_below HL1.out) _⟩
/-- A train that is none's error. -/
structure TrOk (l : List Od) : Prop where
  t : ∀ x ∈ l, 0 ≤ x.n ∧ x.n ≤ 100000
  p : ∀ x ∈ l, 0 ≤ x.c ∧ x.c ≤ 4095
  up : ∀ i, (h : i + 1 < l.length) → l[i].n < l[i + 1].n
  len : l.length ≤ 256
/-- The last tick of the first pulses. -/
def lastT (l : List Od) : Nat → Int
  | 0 => -1
  | k + 1 => (l[k]?.map Od.n).getD 0
set_option maxRecDepth 100000 in
set_option maxHeartbeats 4000000 in
theorem eachP_any (B : Nat) (A : Option Addr) (n c bx : Nat) (l : List Od) (w : World) (hT : TrOk l) (hr : Reads w B 2 A n (ods l)) (hB : B ≤ bx) (hx : Blk w bx 3 #[.int .i64 (-1)]) :
    Calls Tryz.prog 143 #[.slice A n c, .func (.func 144) #[] #[.pointer (some ⟨bx, 0, none⟩)]] w fun e w' => e = .returned (.int .i64 0) ∧ Ex [bx] w w' := by
  obtain ⟨hl, ha⟩ := od_at hr
  have HL := Lib.hid hl
  have HA := Lib.hid ha
  have HT := Lib.hid hT
  have h256 := hT.len
  have hxl := hx.lt
  rw [hl] at h256
  clear hl ha hr hT
  go_enter Tryz.func143, Tryz.ntmps143
  go_wp2_with fail
  go_loopw [10] (fun i wr => ∃ k : Nat, k ≤ n ∧ i = .int .i64 k ∧ Blk wr bx 3 #[.int .i64 (lastT l k)] ∧ Ex [bx] w wr) (fun i _ => n - (intOf i).toNat)
  case atStart => exact ⟨0, by omega, rfl, hx, Ex.refl _ _⟩
  case round =>
    obtain ⟨k, hk, rfl, hb, he⟩ := hrel
    have hes := he.size
    have HE := Lib.hid he
    have HBx := Lib.hid hb
    clear hb he
    by_cases hlt : k < n
    · have hkl : k < l.length := by rw [HL.out]; exact hlt
      obtain ⟨b, o, rfl, hbb, z0, z1⟩ := HA.out k hkl
      have kb : ∀ i, wr.cell? ⟨b, i, none⟩ = w.cell? ⟨b, i, none⟩ := fun i => World.cell?_of_block (w := w) (HE.out.block b (by omega) (by simp; omega))
      rw [← kb] at z0 z1
      clear kb
      have h1 := HT.out.t _ (List.getElem_mem hkl)
      have h2 := HT.out.p _ (List.getElem_mem hkl)
      have h3 : lastT l k < l[k].n := by
        match k, hkl with
        | 0, _ => show (-1 : Int) < _; omega
        | k + 1, hkl =>
          show (l[k]?.map Od.n).getD 0 < _
          rw [List.getElem?_eq_getElem (by omega)]
          exact HT.out.up k hkl
      have h4 : Hid (lastT l (k + 1) = l[k].n) := Lib.hid (by show (l[k]?.map Od.n).getD 0 = _; rw [List.getElem?_eq_getElem hkl]; rfl)
      generalize lastT l k = last at *
      generalize l[k] = x at *
      obtain ⟨t, p⟩ := x
      dsimp only at z0 z1 h1 h2 h3 h4
      have HC := Lib.hid (clt_any k t p last bx (wr.alloc (.cells #[.int .i64 t, .int .i64 p] 98)) (HBx.out.alloc _) h1 h2 h3)
      go_wp2_with fail
      refine HC.out.mono ?_
      rintro e w1 ⟨rfl, hb1, he1⟩
      have HE1 := Lib.hid ((HE.out.grown ((Below.refl _ _).alloc (Nat.le_refl _) (.cells #[.int .i64 t, .int .i64 p] 98))).then he1)
      have HB1 := Lib.hid hb1
      clear hb1 he1 HC
      go_wp2_with fail
      go_roundw
      case rel => exact ⟨k + 1, by omega, by go_num, by rw [h4.out]; exact HB1.out, HE1.out⟩
      case measure => simp [intOf]; omega
    · obtain rfl : k = n := by omega
      go_wp2_with fail
      go_ret
      exact ⟨rfl, HE.out⟩
set_option maxRecDepth 100000 in
set_option maxHeartbeats 4000000 in
theorem CheckTrain_any (B : Nat) (A : Option Addr) (n c : Nat) (l : List Od) (w : World) (hT : TrOk l) (hr : Reads w B 2 A n (ods l)) (hB : B ≤ w.heap.size) :
    Calls Tryz.prog 97 #[.slice A n c] w fun e w' => e = .returned (.int .i64 0) ∧ Below w.heap.size w w' := by
  have hl := (od_at hr).1
  have h256 := hT.len
  rw [hl] at h256
  have HE := Lib.hid (eachP_any B A n c w.heap.size l (w.alloc (.cells #[.int .i64 (-1)] 3)) hT (hr.alloc hB _) hB (Blk.new _ _ _))
  clear hr hT hl
  go_enter Tryz.func97, Tryz.ntmps97
  go_wp2_with fail
  refine HE.out.mono ?_
  rintro e w1 ⟨rfl, he⟩
  have hb := ((Below.refl w.heap.size w).alloc (Nat.le_refl _) (.cells #[.int .i64 (-1)] 3)).trans (he.lows (by simp) (by simp))
  have HB := Lib.hid hb
  clear he hb
  go_wp2_with fail
  go_ret
  exact ⟨rfl, HB.out⟩
end Go.Proofs.YtafnebfchhmgcaaGreat
