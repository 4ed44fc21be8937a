/- A train without a set of valves that it does not use. -/
import Derived.Laws.MakeOwn
import Derived.Test.YtafnebfchhmgcaaGreatV4
import Derived.Test.YtafnebfchhmgcaaGreatQe
namespace Go.Proofs.YtafnebfchhmgcaaGreat
open Go Go.RowKit Go.Sort Go.Shelf
set_option linter.unusedSimpArgs false
set_option linter.unusedVariables false
attribute [local go_sem] cell_if frozen_if grow_cell
theorem elemPu : Elem Tryz.prog 99 98 2 16 := elem_of Tryz.underlying99 (z := .agg #[.int .i64 0, .int .i64 0]) (by kernel_rfl) rfl (by decide)
theorem clr_same {p m : Nat} (hp : p < 2 ^ 12) (hm : m < 2 ^ 12) (h : p &&& m = 0) : andN p m = p := by
  apply Nat.eq_of_testBit_eq
  intro i
  rw [andN_bit p m i (by omega) (by omega)]
  have h1 : (p &&& m).testBit i = false := by rw [h]; exact Nat.zero_testBit i
  rw [Nat.testBit_and] at h1
  cases hpi : p.testBit i <;> cases hmi : m.testBit i <;> simp_all
theorem byc_any (p m : Int) (bx : Nat) (w : World) (hB : Blk w bx 3 #[.int .i64 m]) :
    Calls Tryz.prog 100 #[.int .i64 p, .pointer (some ⟨bx, 0, none⟩)] w fun e w' => e = .returned (.int .i64 (bits .andNot .i64 p m)) ∧ w = w' := by
  have cB := hB.cell
  have lB := hB.lt
  go_enter Tryz.func100, Tryz.ntmps100
  go_wp2_with fail
  go_ret
  exact ⟨rfl, rfl⟩
theorem ods_len (l : List Od) : (ods l).length = l.length * 2 := flat_len (f := Od.cells) (fun _ => rfl) l
theorem ods_c (l : List Od) {k : Nat} (h : k < l.length) : (ods l)[k * 2 + 1]? = some (.int .i64 l[k].c) := by
  unfold ods
  rw [flat_get (f := Od.cells) (m := 2) (fun _ => rfl) l k 1 (by decide), List.getElem?_eq_getElem h]
  rfl
theorem ods_one (l : List Od) : ∀ v ∈ ods l, v.oneCell' = true := one_flat (fun x v hv => by simp [Od.cells] at hv; rcases hv with rfl | rfl <;> rfl) l
theorem arr_same {xs : Array Value} {i : Nat} {v : Value} (h : xs[i]? = some v) : xs.setIfInBounds i v = xs := by
  apply Array.ext
  · simp
  · intro j h1 h2
    rw [Array.getElem_setIfInBounds]
    split
    · rename_i e
      subst e
      rw [Array.getElem?_eq_getElem h2] at h
      exact (Option.some.inj h).symm
    · rfl
set_option maxRecDepth 100000 in
set_option maxHeartbeats 4000000 in
theorem changed_same (B : Nat) (A : Option Addr) (n c bx : Nat) (m : Int) (l : List Od) (w : World) (hr : Reads w B 2 A n (ods l)) (hB : B ≤ w.heap.size) (hx : Blk w bx 3 #[.int .i64 m]) (hn : n ≤ 256) (hs : ∀ x ∈ l, bits .andNot .i64 x.c m = x.c) :
    Calls Tryz.prog 99 #[.slice A n c, .func (.func 100) #[] #[.pointer (some ⟨bx, 0, none⟩)]] w fun e w' => e = .returned (.slice (some ⟨w.heap.size, 0, none⟩) n n) ∧ Blk w' w.heap.size 98 (ods l).toArray ∧ Below w.heap.size w w' := by
  have hl := (od_at hr).1
  have HW := Lib.hid hr
  have HS := Lib.hid hs
  have HX := Lib.hid hx
  have HL := Lib.hid hl
  obtain ⟨ht, ⟨i, z, g1, g2, g3, g4, g5⟩, hp⟩ := elemPu
  have hm : ∀ w, (Instr.makeSlice 99 (.int .i64 (n : Int)) (.int .i64 (n : Int))).run Tryz.prog w = .ok (.slice (some ⟨w.heap.size, 0, none⟩) n n) (w.alloc (.cells (madeCells z.cells (n * 2)) 98)) := fun w => by
    have := run_make (P := Tryz.prog) w _ _ i z ht g1 g2 .i64 .i64 (n : Int) (n : Int) (by omega) (by omega) (by rw [g4]; omega) (by omega)
    rw [g3] at this
    simpa using this
  have hzs : Hid ((madeCells z.cells (n * 2)).size = n * 2) := size_madeCells _ _
  generalize madeCells z.cells (n * 2) = zc at *
  have HT := Lib.hid ht
  clear g1 g2 g3 g4 g5 ht hp hr hs hx hl i z
  go_enter Tryz.func99, Tryz.ntmps99
  go_wp2_with (with_reducible refine wpList_copy_all rfl (.tmp 10) (.tmp 11) 99 99 98 rfl 2 w.heap.size n c n A zc 98 (ods l) rfl rfl HT.out ?hs ?hg ?hr hzs.out (ods_one _) ?_)
  case hs => kernel_rfl
  case hg => exact bk_
  case hr => exact ⟨B, HW.out.below bl_⟩
  intro w1 hb1 hk1 hs1 hbb1
  have hbw : Below w.heap.size w w1 := (bl_ : Below w.heap.size w _).trans hbb1
  have HBl := Lib.hid hb1
  have HBW := Lib.hid hbw
  clear hk1 hbb1 hb1 hm hzs HT hbw HW
  go_wp2_with fail
  go_loopw [15] (fun s15 wr => ∃ k : Nat, k ≤ n ∧ s15 = .int .i64 (k : Int) ∧ Blk wr w.heap.size 98 (ods l).toArray ∧ Below w.heap.size w wr) (fun s15 _ => n - (intOf s15).toNat)
  case atStart => exact ⟨0, by omega, rfl, HBl.out, HBW.out⟩
  case round =>
    obtain ⟨k, hk, rfl, hbl, hb⟩ := hrel
    have HB2 := Lib.hid hbl
    have HLo := Lib.hid hb
    clear hbl hb
    by_cases hlt : k < n
    · have hkl : k < l.length := by rw [HL.out]; exact hlt
      have hkI : decide ((k : Int) < (n : Int)) = true := by simp; omega
      have hx2 := HX.out.kept HLo.out
      have hcell := (HB2.out.cell (k * 2 + 1)).trans ((List.getElem?_toArray (xs := ods l) (i := k * 2 + 1)).trans (ods_c l hkl))
      have hsame := HS.out _ (List.getElem_mem hkl)
      have HSet : Hid ((ods l).toArray.setIfInBounds (k * 2 + 1) (.int .i64 l[k].c) = (ods l).toArray) := Lib.hid (arr_same ((List.getElem?_toArray).trans (ods_c l hkl)))
      generalize l[k].c = p at *
      have HC := Lib.hid (byc_any p m bx wr hx2)
      rw [hsame] at HC
      have fB := HB2.out.frozen
      have lB := HB2.out.lt
      clear hsame hx2
      go_wp2_with fail
      refine HC.out.mono ?_
      rintro e w2 ⟨rfl, rfl⟩
      have HB3 : Hid (Blk (wr.setCell ⟨w.heap.size, k * 2 + 1, none⟩ (.int .i64 p)) w.heap.size 98 (ods l).toArray) := Lib.hid (by have := HB2.out.set_ (k * 2 + 1) (.int .i64 p); rw [HSet.out] at this; exact this)
      have HL3 : Hid (Below w.heap.size w (wr.setCell ⟨w.heap.size, k * 2 + 1, none⟩ (.int .i64 p))) := Lib.hid (HLo.out.setCell (p := ⟨w.heap.size, k * 2 + 1, none⟩) (Nat.le_refl _) _)
      go_wp2_with fail
      go_roundw
      case rel => exact ⟨k + 1, by omega, by go_num, HB3.out, HL3.out⟩
      case measure => simp [intOf]; omega
    · obtain rfl : k = n := by omega
      go_wp2_with fail
      go_ret
      exact ⟨rfl, HB2.out, HLo.out⟩
set_option maxRecDepth 100000 in
set_option maxHeartbeats 4000000 in
theorem Bypassed_same (B : Nat) (A : Option Addr) (n c m : Nat) (l : List Od) (w : World) (hr : Reads w B 2 A n (ods l)) (hB : B ≤ w.heap.size) (hT : TrOk l) (hm : m < 2 ^ 12) (hs : ∀ x ∈ l, x.c.toNat &&& m = 0) :
    Calls Tryz.prog 40 #[.slice A n c, .int .i64 (m : Int)] w fun e w' => ∃ g, e = .returned (.tuple #[.slice (some ⟨g, 0, none⟩) n n, .int .i64 0]) ∧ Reads w' w'.heap.size 2 (some ⟨g, 0, none⟩) n (ods l) ∧ Below w.heap.size w w' := by
  have hl := (od_at hr).1
  have h256 := hT.len
  rw [hl] at h256
  have hs2 : ∀ x ∈ l, bits .andNot .i64 x.c (m : Int) = x.c := fun x hx => by
    have hp := hT.p x hx
    have h0 := hs x hx
    obtain ⟨p, hpe⟩ := Int.eq_ofNat_of_zero_le hp.1
    rw [hpe] at h0 ⊢
    rw [bo_andNot (by omega) (by omega), clr_same (by omega) hm (by simpa using h0)]
  have HC := Lib.hid (fun W (hW : Below w.heap.size w W) => CheckTrain_any B A n c l W hT (hr.below (hW.mono hB)) (by have := hW.size; omega))
  have HS := Lib.hid (fun W bx (hW : Below w.heap.size w W) (hx : Blk W bx 3 #[.int .i64 (m : Int)]) => changed_same B A n c bx (m : Int) l W (hr.below (hW.mono hB)) (by have := hW.size; omega) hx h256 hs2)
  have e2 : ckR (m : Int) 0 4095 = 0 := ckR_yes (by omega)
  have HL := Lib.hid hl
  clear hs2 hr hT hs hl
  go_enter Tryz.func40, Tryz.ntmps40
  go_upto_region 1 with fail
  refine wp_world ?_
  intro W0 hW0
  have HA := Lib.hid (show Blk W0 w.heap.size 3 #[.int .i64 (m : Int)] from by rw [hW0]; exact Blk.new _ _ _)
  have HLo := Lib.hid (show Below w.heap.size w W0 from by rw [hW0]; exact bl_)
  clear hW0
  have cA := HA.out.cell
  have lA := HA.out.lt
  go_cut [6] (fun s6 wx => s6 = .int .i64 0 ∧ Below W0.heap.size W0 wx)
  case first =>
    go_wp2_with fail
    (refine wp_region_calm [] [0, 1, 2, 3] 3 (by kernel_rfl) rfl (by kernel_rfl) (by kernel_rfl) (by kernel_rfl) ?_; simp only [pickB, List.filterMap_cons, List.filterMap_nil, List.getElem?_toArray, List.getElem?_cons_zero, List.getElem?_cons_succ]; (repeat (first | ((first | (with_reducible refine quietL_plain rfl (fun K hK => ?_)) | (with_reducible refine quietL_want (by with_unfolding_all rfl) (fun K hK => ?_))); (apply Exists.intro; refine ⟨fun wx hx => ?_, ?_⟩; (· (have hcx := ifs_ex hx); simp [go_sem, *, ↓IntWalk.iteOmega] <;> (first | rfl | exact ⟨rfl, rfl⟩ | (first | (with_reducible exact calls_B (vwithin_b _ _ _ _)) | (with_reducible exact calls_B (HC.out _ (HLo.out.trans ((Ex.low hx).mono HLo.out.size))))))); (simp only [Act.put, List.setIfInBounds_toArray, List.set_cons_zero, List.set_cons_succ]; refine hK _ ?_; clear hK K))) | ((with_reducible refine quietL_skip (by with_unfolding_all rfl) ?_); simp only [Act.put, List.setIfInBounds_toArray, List.set_cons_zero, List.set_cons_succ]))); refine quietL_nil ?_)
    rw [e2]
    refine anyB_one (i := 4) (by kernel_rfl) rfl rfl ?_
    intro w1 hb1 K hK
    have HP1 := Lib.hid (hb1.trans (((Below.refl _ _).alloc (Nat.le_refl _) (.cells #[.int .i64 0, .int .i64 0] 31)).mono hb1.size))
    have HF := Lib.hid (Blk.new w1 31 #[.int .i64 0, .int .i64 0])
    go_wp2
    refine ⟨Ex.of_below HP1.out, ?_⟩
    clear hb1
    refine anyB_one (i := 5) (by kernel_rfl) rfl rfl ?_
    intro w2 hb2 K hK
    have HP2 := Lib.hid (HP1.out.trans (hb2.mono HP1.out.size))
    have HF2 := HF.out.kept hb2
    have hr2 : Reads w2 (w1.heap.size + 1) 1 (some ⟨w1.heap.size, 0, none⟩) 2 (([0, 0] : List Int).map (.int .i64)) := Reads.blk HF2 rfl
    go_wp2_with fail
    refine (vfirst_any _ _ 2 2 [0, 0] w2 hr2 (by unfold maxLen; omega)).mono ?_
    rw [show firstE [0, 0] = 0 from rfl]
    rintro e w3 ⟨rfl, rfl⟩
    go_wp2
    have hx2 := Ex.of_below (X := []) HP2.out
    refine ⟨hx2, ?_⟩
    clear hb2
    (refine anyB_one (i := 6) (by kernel_rfl) rfl rfl ?_; intro w4 hb4 K hK; have hs4 := hb4.size; (try simp at hs4); go_wp2; refine ⟨xs_, ?_⟩)
    (refine anyB_end (by kernel_rfl) ?_; intro w5 hb5; have hs5 := hb5.size; (try simp at hs5); simp only [Calm])
    have HP5 := Lib.hid ((HP2.out.trans (hb4.mono HP2.out.size)).trans (hb5.mono (by have := HP2.out.size; omega)))
    go_wp2_with fail
    go_meet
    case rel => exact ⟨rfl, HP5.out⟩
  rename World => W1
  obtain ⟨rfl, hb⟩ := hcut
  have HA1 := Lib.hid (HA.out.kept hb)
  have HL1 := Lib.hid (HLo.out.trans (hb.mono HLo.out.size))
  clear cA lA hb HA HLo
  go_wp2_with fail
  refine (HS.out _ _ HL1.out HA1.out).mono ?_
  rintro e W2 ⟨rfl, hbl, hb⟩
  have HR2 : Hid (Reads W2 W2.heap.size 2 (some ⟨W1.heap.size, 0, none⟩) n (ods l)) := Lib.hid ((Reads.blk_at (pre := []) (post := []) hbl (by simp) rfl (by rw [ods_len, HL.out])).more hbl.lt)
  have HL2 := Lib.hid (HL1.out.trans (hb.mono HL1.out.size))
  clear hbl hb
  go_wp2_with fail
  go_ret2
  exact ⟨_, rfl, HR2.out, HL2.out⟩
end Go.Proofs.YtafnebfchhmgcaaGreat
