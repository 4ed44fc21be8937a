/- The check of a record without an error. -/
import Derived.Test.YtafnebfchhmgcaaGreatN3
import Derived.Test.YtafnebfchhmgcaaGreatL2
namespace Go.Proofs.YtafnebfchhmgcaaGreat
open Go Go.RowKit Go.Sort Go.Shelf
set_option linter.unusedSimpArgs false
set_option linter.unusedVariables false
attribute [local go_sem] cell_if frozen_if grow_cell
set_option maxRecDepth 100000 in
set_option maxHeartbeats 2000000 in
theorem mapPE_any (B : Nat) (A : Option Addr) (n c : Nat) (l : List Nat) (w : World) (V : Nat → Int) (hS : SampsOk l V) (hr : Reads w B 1 A n (l.map (Value.float .f32))) (hB : B ≤ w.heap.size) (hn : n ≤ 1000) :
    Calls Tryz.prog 115 #[.slice A n c, .func (.func 116) #[] #[]] w (MapRes 31 w (l.map fun x => Value.int .i64 ((fun _ : Nat => (0 : Int)) x))) := by
  obtain ⟨hl, ha⟩ := enc_at hr
  have HL := Lib.hid hl
  have HA := Lib.hid ha
  clear hl ha hr
  
  go_enter Tryz.func115, Tryz.ntmps115
  go_wp2_with fail
  go_loopw [5, 7, 10] (fun v s7 i wr => ∃ k : Nat, k ≤ n ∧ i = .int .i64 k ∧ wr.ownsRow w.heap.size 31 1 v k ((l.take k).map fun x => Value.int .i64 ((fun _ : Nat => (0 : Int)) x)) ∧ Below w.heap.size w wr) (fun _ _ i _ => n - (intOf i).toNat)
  case atStart => exact ⟨0, by omega, rfl, World.ownsRow_nil _ _ _ _, bl_⟩
  case round =>
    obtain ⟨k, hk, rfl, hO, hb⟩ := hrel
    have HO := Lib.hid hO
    clear hO
    have hs := hb.size
    by_cases hlt : k < n
    · have hkl : k < l.length := by rw [HL.out]; exact hlt
      obtain ⟨b, o, eA, hbb, z0⟩ := HA.out k hkl
      have kb : ∀ i, wr.cell? ⟨b, i, none⟩ = w.cell? ⟨b, i, none⟩ := fun i => hb.cell (p := ⟨b, i, none⟩) (by simp; omega)
      rw [← kb] at z0
      clear kb
      have hbw : b < wr.heap.size := by omega
      subst eA
      have hmem := List.getElem_mem hkl
      have Hd : Hid (((l.take (k + 1)).map fun x => Value.int .i64 ((fun _ : Nat => (0 : Int)) x)) = ((l.take k).map fun x => Value.int .i64 ((fun _ : Nat => (0 : Int)) x)) ++ [(fun x => Value.int .i64 ((fun _ : Nat => (0 : Int)) x)) l[k]]) := by
        show _ = _
        rw [List.take_succ_eq_append_getElem hkl, List.map_append]; rfl
      generalize l[k] = x at *
      obtain ⟨px, hpx⟩ := hS x hmem; have HSx := Lib.hid hpx; clear hpx hmem
      go_wp2_with (first | (go_at_call 116; refine (CheckSample_ok x px (V x) _ HSx.out).mono ?_; rintro e w1 ⟨rfl, rfl⟩) | (at_builtin; refine wpList_app 187 31 1 8 elemErrno rfl (.tmp 14) (.tmp 18) rfl w.heap.size _ k _ rfl HO.out 1 rfl rfl ?h1 (by decide) ?h3 (by omega) (by omega) ?_))
      case h1 => rfl
      case h3 => unfold maxLen; omega
      intro g' cap' w' hown' hb' _ hs'
      go_wp2
      go_roundw
      case rel => exact ⟨k + 1, by omega, by go_num, by rw [Hd.out]; simpa using hown', hb.trans hb'⟩
      case measure => simp [intOf]; omega
    · obtain rfl : k = n := by omega
      have HL2 := Lib.hid HL.out
      go_wp2
      go_ret
      refine ⟨_, rfl, ?_, hb⟩
      have := HO.out
      rw [List.take_of_length_le (by rw [HL2.out]; exact Nat.le_refl _)] at this
      rw [List.length_map, HL2.out]
      exact this
/-- A record: its name, and its samples in memory. -/
structure RecOk (nm : ByteArray) (l : List Nat) : Prop where
  name : nameB nm = true
  samp : ∀ x ∈ l, sampE x = 0
  len : l.length ≤ 1000
  neg : ∀ x ∈ l, x < 2147483648
theorem samps_of {l : List Nat} (h : ∀ x ∈ l, sampE x = 0) : SampsOk l sampV := fun x hx => sampE_samp (h x hx)
theorem first_zeros2 : ∀ l : List Nat, firstE (l.map fun _ => (0 : Int)) = 0
  | [] => rfl
  | _ :: r => by rw [List.map_cons, firstE_cons, first_zeros2 r]; rfl
theorem name_24 {s : ByteArray} (h : nameB s = true) : 0 < s.size ∧ s.size ≤ 24 := by
  unfold nameB at h
  rw [Bool.and_eq_true, Bool.and_eq_true] at h
  have h2 := h.2.1
  refine ⟨?_, by simpa using h.2.2⟩
  cases hl : s.data.toList with
  | nil => rw [hl] at h2; cases h2
  | cons a r =>
    have e : s.data.toList.length = s.size := by simp
    rw [hl] at e
    simp at e
    omega
set_option maxRecDepth 100000 in
set_option maxHeartbeats 2000000 in
theorem CheckRecord_ok (B : Nat) (A : Option Addr) (n c : Nat) (nm : ByteArray) (l : List Nat) (w : World) (h : RecOk nm l) (hr : Reads w B 1 A n (l.map (Value.float .f32))) (hB : B ≤ w.heap.size) :
    Calls Tryz.prog 56 #[.agg #[.string nm, .slice A n c]] w fun e w' => e = .returned (.int .i64 0) ∧ Below w.heap.size w w' := by
  have hl : l.length = n := by simpa using hr.1
  have hn := h.len
  rw [hl] at hn
  have HI := Lib.hid (fun W => IsName_any nm W (Nat.le_trans (name_24 h.name).2 (by unfold maxLen; decide)))
  rw [h.name] at HI
  have HM := Lib.hid (fun W (hW : Below w.heap.size w W) => mapPE_any B A n c l W sampV (samps_of h.samp) (hr.below (hW.mono hB)) (by have := hW.size; omega) hn)
  have HP := Lib.hid (fun (q : Bool) k W => pwhen_any q k W)
  have e0 : (l.map fun x => Value.int .i64 ((fun _ : Nat => (0 : Int)) x)).length = n := by rw [List.length_map, hl]
  have e1 : (l.map fun x => Value.int .i64 ((fun _ : Nat => (0 : Int)) x)) = (l.map fun _ => (0 : Int)).map (.int .i64) := by rw [List.map_map]; rfl
  unfold MapRes at HM
  rw [e0, e1] at HM
  have hd : ¬ (1024 : Int) < (n : Int) := by omega
  have hd2 : decide ((1024 : Int) < (n : Int)) = false := decide_eq_false hd
  clear h hr e0 e1
  go_enter Tryz.func56, Tryz.ntmps56
  go_upto_region 1 with fail
  refine wp_world ?_
  intro w1 hW
  have HA : Hid (Blk w1 w.heap.size 56 #[.string nm, .slice A n c]) := Lib.hid (by rw [hW]; exact Blk.new _ _ _)
  have HL : Hid (Below w.heap.size w w1) := Lib.hid (by rw [hW]; exact (Below.refl _ _).alloc (Nat.le_refl _) _)
  have hs1 := HL.out.size
  clear hW
  have cA := HA.out.cell
  have lA := HA.out.lt
  have e2 : whenE (!true) 8 = 0 := rfl
  go_cut [3] (fun s3 wx => s3 = .int .i64 0 ∧ Below w1.heap.size w1 wx)
  case first =>
    clear HM
    go_wp2_with fail
    (refine wp_region_calm [] [0, 1, 2, 3, 4, 5, 6, 7, 8, 9] 3 (by kernel_rfl) rfl (by kernel_rfl) (by kernel_rfl) (by kernel_rfl) ?_; simp only [pickB, List.filterMap_cons, List.filterMap_nil, List.getElem?_toArray, List.getElem?_cons_zero, List.getElem?_cons_succ]; (repeat (first | ((first | (with_reducible refine quietL_plain rfl (fun K hK => ?_)) | (with_reducible refine quietL_want (by with_unfolding_all rfl) (fun K hK => ?_))); (apply Exists.intro; refine ⟨fun wx hx => ?_, ?_⟩; (· (have hcx := ifs_ex hx); simp [go_sem, *, ↓IntWalk.iteOmega] <;> (first | rfl | exact ⟨rfl, rfl⟩ | (first | (with_reducible exact calls_B (HI.out _)) | (with_reducible exact calls_B (calls_below (HP.out _ _ _)))))); (simp only [Act.put, List.setIfInBounds_toArray, List.set_cons_zero, List.set_cons_succ]; refine hK _ ?_; clear hK K))) | ((with_reducible refine quietL_skip (by with_unfolding_all rfl) ?_); simp only [Act.put, List.setIfInBounds_toArray, List.set_cons_zero, List.set_cons_succ]))); refine quietL_nil ?_)
    (refine anyB_one (i := 10) (by kernel_rfl) rfl rfl ?_; intro w4 hb4 K hK; have hs4 := hb4.size; (try simp at hs4); go_wp2; refine ⟨xs_, ?_⟩)
    (refine anyB_one (i := 11) (by kernel_rfl) rfl rfl ?_; intro w5 hb5 K hK; obtain ⟨hc5, hf5⟩ := ifs_of hb5; have hs5 := hb5.size; (try simp at hs5); go_wp2_with fail; refine (pfirst_any (w4.heap.size + 1) _ 2 2 [0, 0] _ ((by simpa using Reads.new (size := 1) w4 (([0, 0]).map (.int .i64)).toArray 31 2 rfl : Reads (w4.alloc (.cells (([0, 0]).map (.int .i64)).toArray 31)) (w4.heap.size + 1) 1 (some ⟨w4.heap.size, 0, none⟩) 2 (([0, 0]).map (.int .i64))).below (hb5.mono (by simp))) (by unfold maxLen; decide)).mono ?_; rintro e w5' ⟨rfl, rfl⟩; go_wp2; refine ⟨xs_, ?_⟩)
    (refine anyB_one (i := 12) (by kernel_rfl) rfl rfl ?_; intro w6 hb6 K hK; have hs6 := hb6.size; (try simp at hs6); go_wp2; refine ⟨xs_, ?_⟩)
    (refine anyB_end (by kernel_rfl) ?_; intro w7 hb7; have hs7 := hb7.size; (try simp at hs7); simp only [Calm])
    have hb7' : Below w1.heap.size w1 w7 := bl_
    go_wp2_with fail
    go_meet
    case rel => exact ⟨rfl, hb7'⟩
  rename World => w2
  obtain ⟨rfl, hb2⟩ := hcut
  have hs2 := hb2.size
  have bA2 := HA.out.kept hb2
  have HL2 := Lib.hid (HL.out.trans (hb2.mono HL.out.size))
  have cA := bA2.cell
  have lA := bA2.lt
  clear HI HP hd hd2 hb2 bA2 HA
  go_wp2_with fail
  refine (HM.out _ HL2.out).mono ?_
  rintro e w3 ⟨v3, rfl, hr3, hb3⟩
  obtain ⟨A3, c3, rfl, _, _, hrd3⟩ := own_form hr3
  have hs3 := hb3.size
  have HR3 := Lib.hid hrd3
  have HL3 := Lib.hid (HL2.out.trans (hb3.mono (by omega)))
  clear hrd3 hr3 hb3 HL2
  go_wp2_with fail
  refine (pfirst_any _ A3 n c3 (l.map fun _ => (0 : Int)) w3 HR3.out (by unfold maxLen; omega)).mono ?_
  rw [first_zeros2]
  rintro e w4 ⟨rfl, rfl⟩
  go_wp2_with fail
  go_ret
  exact ⟨rfl, HL3.out⟩
end Go.Proofs.YtafnebfchhmgcaaGreat
