/- The reference's numerals, states, and its Print. -/
import Derived.Laws.IdiomStrings
import Derived.Test.YtjanojmgnpfjeaaGreatDoorQo
import Derived.Test.YtjanojmgnpfjeaaGreatDoorSB
import Derived.Deep.DeepCutAuto
namespace Go.Proofs.YtjanojmgnpfjeaaGreatDoor
open Go Go.RowKit Go.Sort Go.Shelf
set_option linter.unusedSimpArgs false
set_option linter.unusedVariables false
attribute [local go_sem] cell_if frozen_if grow_cell
theorem itoa_nat (n : Nat) : Lib.itoa (n : Int) = Lib.decDigits n := by
  unfold Lib.itoa
  rw [if_neg (by omega), Int.toNat_natCast]
theorem itoB_small {n : Nat} (h : n < 10) : itoB (n : Int) = ⟨#[UInt8.ofNat (48 + n)]⟩ := by
  unfold itoB
  rw [itoa_nat, Lib.decDigits, dif_pos h]
theorem itoB_big {n : Nat} (h : ¬ n < 10) : itoB (n : Int) = itoB ((n / 10 : Nat) : Int) ++ ⟨#[UInt8.ofNat (48 + n % 10)]⟩ := by
  have e : Lib.decDigits n = Lib.decDigits (n / 10) ++ [UInt8.ofNat (48 + n % 10)] := by rw [Lib.decDigits, dif_neg h]
  unfold itoB
  rw [itoa_nat, itoa_nat, e, ← ba_app]
theorem conv_one (W : World) (g z : Nat) (hz : z < 256) (hc : W.cell? ⟨g, 0, none⟩ = some (.int .u8 (z : Int))) : (convert 186 9 (.slice (some ⟨g, 0, none⟩) 1 1)).run Tryz.prog W = .ok (.string ⟨#[UInt8.ofNat z]⟩) W := by
  have h := run_convert_bytes_back (P := Tryz.prog) W 186 9 5 ⟨g, 0, none⟩ 1 [UInt8.ofNat z] (by kernel_rfl) (by kernel_rfl) (by kernel_rfl) (fun j hj => by
    have hj0 : j = 0 := by simpa using hj
    subst hj0
    have e : (UInt8.ofNat z).toNat = z := by
      rw [UInt8.toNat_ofNat']
      omega
    show W.cell? (Addr.add ⟨g, 0, none⟩ 0) = _
    rw [Addr.add_lit]
    simp only [List.getElem_cons_zero, e]
    exact hc)
  exact h
set_option maxRecDepth 100000 in
set_option maxHeartbeats 2000000 in
theorem text_small (n : Nat) (hn : n < 10) (w : World) : Calls Tryz.prog 86 #[.int .i64 n] w fun e w' => e = .returned (.string (itoB n)) ∧ Below w.heap.size w w' := by
  rw [itoB_small hn]
  have h1 : ¬ (n : Int) < 0 := by omega
  have h2 : (n : Int) < 10 := by omega
  have e1 : IntKind.i64.wrap (48 + (n : Int)) = 48 + (n : Int) := by rw [IntKind.wrap_i64]; omega
  have e2 : IntKind.u8.wrap (48 + (n : Int)) = 48 + (n : Int) := by rw [IntKind.wrap_u8]; omega
  have hcv : (convert 186 9 (.slice (some ⟨w.heap.size, 0, none⟩) 1 1)).run Tryz.prog (w.alloc (.cells #[.int .u8 (48 + (n : Int))] 5)) = .ok (.string ⟨#[UInt8.ofNat (48 + n)]⟩) (w.alloc (.cells #[.int .u8 (48 + (n : Int))] 5)) :=
    conv_one _ _ (48 + n) (by omega) (by
      have hB : Blk (w.alloc (.cells #[.int .u8 (48 + (n : Int))] 5)) w.heap.size 5 #[.int .u8 (48 + (n : Int))] := Blk.new _ _ _
      rw [hB.cell 0]; rfl)
  go_enter Tryz.func86, Tryz.ntmps86
  go_wp2_with fail
  go_ret
  exact ⟨rfl, bl_⟩
set_option maxRecDepth 100000 in
set_option maxHeartbeats 4000000 in
theorem Text_any : ∀ (n : Nat) (w : World), n ≤ 1000000000 → Calls Tryz.prog 86 #[.int .i64 n] w fun e w' => e = .returned (.string (itoB n)) ∧ Below w.heap.size w w' := by
  intro n
  induction n using Nat.strongRecOn with
  | _ n ih =>
  intro w hbig
  by_cases hn : n < 10
  · exact text_small n hn w
  have HI : Hid (∀ W, Calls Tryz.prog 86 #[.int .i64 ((n / 10 : Nat) : Int)] W fun e w' => e = .returned (.string (itoB ((n / 10 : Nat) : Int))) ∧ Below W.heap.size W w') := Lib.hid (fun W => ih (n / 10) (by omega) W (by omega))
  have hz := itoB_size (n := ((n / 10 : Nat) : Int)) (by omega) (by omega)
  rw [itoB_big hn]
  have h1 : ¬ (n : Int) < 0 := by omega
  have h2 : ¬ (n : Int) < 10 := by omega
  have q1 : (n : Int).tdiv 10 = ((n / 10 : Nat) : Int) := rfl
  have q2 : (n : Int).tmod 10 = ((n % 10 : Nat) : Int) := rfl
  have hm : n % 10 < 10 := Nat.mod_lt _ (by decide)
  have e0 : IntKind.i64.wrap ((n / 10 : Nat) : Int) = ((n / 10 : Nat) : Int) := by rw [IntKind.wrap_i64]; omega
  have e3 : IntKind.i64.wrap ((n % 10 : Nat) : Int) = ((n % 10 : Nat) : Int) := by rw [IntKind.wrap_i64]; omega
  generalize itoB ((n / 10 : Nat) : Int) = sq at *
  generalize n / 10 = m at *
  generalize n % 10 = d at *
  have e1 : IntKind.i64.wrap (48 + (d : Int)) = 48 + (d : Int) := by rw [IntKind.wrap_i64]; omega
  have e2 : IntKind.u8.wrap (48 + (d : Int)) = 48 + (d : Int) := by rw [IntKind.wrap_u8]; omega
  generalize hch : UInt8.ofNat (48 + d) = ch at *
  have HCh : Hid (UInt8.ofNat (48 + d) = ch) := Lib.hid hch
  clear hch ih
  go_enter Tryz.func86, Tryz.ntmps86
  go_wp2_with fail
  (refine wp_region_calm [] [0, 1, 3, 4, 5, 6] 5 (by kernel_rfl) rfl (by kernel_rfl) (by kernel_rfl) (by kernel_rfl) ?_; simp only [pickB, List.filterMap_cons, List.filterMap_nil, List.getElem?_toArray, List.getElem?_cons_zero, List.getElem?_cons_succ]; (repeat (first | ((first | (with_reducible refine quietL_plain rfl (fun K hK => ?_)) | (with_reducible refine quietL_want (by with_unfolding_all rfl) (fun K hK => ?_))); (apply Exists.intro; refine ⟨fun wx hx => ?_, ?_⟩; (· (have hcx := ifs_ex hx); simp [go_sem, *, ↓IntWalk.iteOmega] <;> (first | rfl | exact ⟨rfl, rfl⟩ | fail)); (simp only [Act.put, List.setIfInBounds_toArray, List.set_cons_zero, List.set_cons_succ]; refine hK _ ?_; clear hK K))) | ((with_reducible refine quietL_skip (by with_unfolding_all rfl) ?_); simp only [Act.put, List.setIfInBounds_toArray, List.set_cons_zero, List.set_cons_succ]))); refine quietL_nil ?_)
  refine anyB_two (i := 2) (j := 7) (by kernel_rfl) rfl rfl rfl rfl ?_ ?_
  · intro w1 hb1 K hK
    have hs1 := hb1.size
    go_wp2_with fail
    refine (HI.out _).mono ?_
    rintro e w2 ⟨rfl, hb2⟩
    have hs2 := hb2.size
    go_wp2
    refine ⟨xs_, ?_⟩
    refine anyB_one (i := 7) (by kernel_rfl) rfl rfl ?_
    intro w3 hb3 K hK
    have hs3 := hb3.size
    (try simp at hs3)
    have hn3 : Blk (w3.alloc (.cells #[.int .u8 (48 + (d : Int))] 5)) w3.heap.size 5 #[.int .u8 (48 + (d : Int))] := Blk.new _ _ _
    go_wp2
    refine ⟨xs_, ?_⟩
    refine anyB_one (i := 8) (by kernel_rfl) rfl rfl ?_
    intro w4 hb4 K hK
    have hs4 := hb4.size
    (try simp at hs4)
    have hcv : (convert 186 9 (.slice (some ⟨w3.heap.size, 0, none⟩) 1 1)).run Tryz.prog w4 = .ok (.string ⟨#[ch]⟩) w4 := HCh.out ▸ conv_one _ _ (48 + d) (by omega) (by rw [(hn3.kept hb4).cell 0]; rfl)
    go_wp2
    refine ⟨xs_, ?_⟩
    clear hcv
    (refine anyB_quiet_at (by kernel_rfl) calm_panic xs_ 0 [9, 10] _ _ (by kernel_rfl) (by decide +kernel) ?_; simp only [pickB, List.filterMap_cons, List.filterMap_nil, List.getElem?_toArray, List.getElem?_cons_zero, List.getElem?_cons_succ]; (repeat (first | ((first | (with_reducible refine quietL_plain rfl (fun K hK => ?_)) | (with_reducible refine quietL_want (by with_unfolding_all rfl) (fun K hK => ?_))); (apply Exists.intro; refine ⟨fun wx hx => ?_, ?_⟩; (· (have hcx := ifs_ex hx); simp [go_sem, *, ↓IntWalk.iteOmega] <;> (first | rfl | exact ⟨rfl, rfl⟩ | fail)); (simp only [Act.put, List.setIfInBounds_toArray, List.set_cons_zero, List.set_cons_succ]; refine hK _ ?_; clear hK K))) | ((with_reducible refine quietL_skip (by with_unfolding_all rfl) ?_); simp only [Act.put, List.setIfInBounds_toArray, List.set_cons_zero, List.set_cons_succ]))); refine quietL_nil ?_)
    (refine anyB_end (by kernel_rfl) ?_; intro w9 hb9; have hs9 := hb9.size; (try simp at hs9); simp only [Calm])
    go_wp2_with fail
    go_ret
    exact ⟨rfl, bl_⟩
  · intro w1 hb1 K hK
    have hs1 := hb1.size
    have hn1 : Blk (w1.alloc (.cells #[.int .u8 (48 + (d : Int))] 5)) w1.heap.size 5 #[.int .u8 (48 + (d : Int))] := Blk.new _ _ _
    go_wp2
    refine ⟨xs_, ?_⟩
    refine anyB_two (i := 2) (j := 8) (by kernel_rfl) rfl rfl rfl rfl ?_ ?_
    · intro w3 hb3 K hK
      have hs3 := hb3.size
      (try simp at hs3)
      go_wp2_with fail
      refine (HI.out _).mono ?_
      rintro e w4 ⟨rfl, hb4⟩
      have hs4 := hb4.size
      go_wp2
      refine ⟨xs_, ?_⟩
      refine anyB_one (i := 8) (by kernel_rfl) rfl rfl ?_
      intro w5 hb5 K hK
      have hs5 := hb5.size
      (try simp at hs5)
      have hcv : (convert 186 9 (.slice (some ⟨w1.heap.size, 0, none⟩) 1 1)).run Tryz.prog w5 = .ok (.string ⟨#[ch]⟩) w5 := HCh.out ▸ conv_one _ _ (48 + d) (by omega) (by rw [(((hn1.kept hb3).kept hb4).kept hb5).cell 0]; rfl)
      go_wp2
      refine ⟨xs_, ?_⟩
      clear hcv
      (refine anyB_quiet_at (by kernel_rfl) calm_panic xs_ 0 [9, 10] _ _ (by kernel_rfl) (by decide +kernel) ?_; simp only [pickB, List.filterMap_cons, List.filterMap_nil, List.getElem?_toArray, List.getElem?_cons_zero, List.getElem?_cons_succ]; (repeat (first | ((first | (with_reducible refine quietL_plain rfl (fun K hK => ?_)) | (with_reducible refine quietL_want (by with_unfolding_all rfl) (fun K hK => ?_))); (apply Exists.intro; refine ⟨fun wx hx => ?_, ?_⟩; (· (have hcx := ifs_ex hx); simp [go_sem, *, ↓IntWalk.iteOmega] <;> (first | rfl | exact ⟨rfl, rfl⟩ | fail)); (simp only [Act.put, List.setIfInBounds_toArray, List.set_cons_zero, List.set_cons_succ]; refine hK _ ?_; clear hK K))) | ((with_reducible refine quietL_skip (by with_unfolding_all rfl) ?_); simp only [Act.put, List.setIfInBounds_toArray, List.set_cons_zero, List.set_cons_succ]))); refine quietL_nil ?_)
      (refine anyB_end (by kernel_rfl) ?_; intro w9 hb9; have hs9 := hb9.size; (try simp at hs9); simp only [Calm])
      go_wp2_with fail
      go_ret
      exact ⟨rfl, bl_⟩
    · intro w3 hb3 K hK
      have hs3 := hb3.size
      (try simp at hs3)
      have hcv : (convert 186 9 (.slice (some ⟨w1.heap.size, 0, none⟩) 1 1)).run Tryz.prog w3 = .ok (.string ⟨#[ch]⟩) w3 := HCh.out ▸ conv_one _ _ (48 + d) (by omega) (by rw [(hn1.kept hb3).cell 0]; rfl)
      go_wp2
      refine ⟨xs_, ?_⟩
      clear hcv
      refine anyB_one (i := 2) (by kernel_rfl) rfl rfl ?_
      intro w4 hb4 K hK
      have hs4 := hb4.size
      go_wp2_with fail
      refine (HI.out _).mono ?_
      rintro e w5 ⟨rfl, hb5⟩
      have hs5 := hb5.size
      go_wp2
      refine ⟨xs_, ?_⟩
      (refine anyB_quiet_at (by kernel_rfl) calm_panic xs_ 0 [9, 10] _ _ (by kernel_rfl) (by decide +kernel) ?_; simp only [pickB, List.filterMap_cons, List.filterMap_nil, List.getElem?_toArray, List.getElem?_cons_zero, List.getElem?_cons_succ]; (repeat (first | ((first | (with_reducible refine quietL_plain rfl (fun K hK => ?_)) | (with_reducible refine quietL_want (by with_unfolding_all rfl) (fun K hK => ?_))); (apply Exists.intro; refine ⟨fun wx hx => ?_, ?_⟩; (· (have hcx := ifs_ex hx); simp [go_sem, *, ↓IntWalk.iteOmega] <;> (first | rfl | exact ⟨rfl, rfl⟩ | fail)); (simp only [Act.put, List.setIfInBounds_toArray, List.set_cons_zero, List.set_cons_succ]; refine hK _ ?_; clear hK K))) | ((with_reducible refine quietL_skip (by with_unfolding_all rfl) ?_); simp only [Act.put, List.setIfInBounds_toArray, List.set_cons_zero, List.set_cons_succ]))); refine quietL_nil ?_)
      (refine anyB_end (by kernel_rfl) ?_; intro w9 hb9; have hs9 := hb9.size; (try simp at hs9); simp only [Calm])
      go_wp2_with fail
      go_ret
      exact ⟨rfl, bl_⟩
def stBr (x : Md) : ByteArray := if x.by_ then ⟨#[98, 121, 112, 97, 115, 115, 101, 100]⟩ else if x.on then ⟨#[111, 110]⟩ else ⟨#[111, 102, 102]⟩
theorem stBr_size (x : Md) : (stBr x).size ≤ 8 := by
  unfold stBr
  split
  · decide
  · split <;> decide
theorem State_any (x : Md) (w : World) : Calls Tryz.prog 87 #[.agg #[.string x.n, .int .i64 x.q, .bool x.on, .bool x.by_]] w fun e w' => e = .returned (.string (stBr x)) ∧ Below w.heap.size w w' := by
  obtain ⟨xn, xq, xo, xb⟩ := x
  unfold stBr
  dsimp only
  cases xb <;> cases xo
  all_goals
    go_enter Tryz.func87, Tryz.ntmps87
    go_wp2_with fail
    go_ret
    exact ⟨rfl, bl_⟩
def rHead (a : Ar) : ByteArray := ((((((((⟨#[97, 114, 109, 32]⟩ ++ itoB a.lo) ++ ⟨#[32]⟩) ++ itoB a.hi) ++ ⟨#[32]⟩) ++ itoB a.cur) ++ ⟨#[32]⟩) ++ itoB a.lim) ++ ⟨#[10]⟩)
def rAdd (t : ByteArray) (x : Md) : ByteArray := (((((((t ++ ⟨#[109, 111, 100, 117, 108, 101, 32]⟩) ++ x.n) ++ ⟨#[32]⟩) ++ itoB x.q) ++ ⟨#[32]⟩) ++ stBr x) ++ ⟨#[10]⟩)
def rPr (a : Ar) : ByteArray := a.m.foldl rAdd (rHead a)
theorem rAdd_size (t : ByteArray) {x : Md} (hn : x.n.size ≤ 24) (hq : 0 ≤ x.q ∧ x.q ≤ 16384) : (rAdd t x).size ≤ t.size + 70 := by
  have h1 := itoB_size (n := x.q) (by omega) (by omega)
  have h2 := stBr_size x
  unfold rAdd
  simp only [ByteArray.size_append]
  have e1 : (⟨#[109, 111, 100, 117, 108, 101, 32]⟩ : ByteArray).size = 7 := rfl
  have e2 : (⟨#[32]⟩ : ByteArray).size = 1 := rfl
  have e3 : (⟨#[10]⟩ : ByteArray).size = 1 := rfl
  omega
theorem rHead_size {a : Ar} (h1 : (itoB a.lo).size ≤ 21) (h2 : (itoB a.hi).size ≤ 21) (h3 : (itoB a.cur).size ≤ 21) (h4 : (itoB a.lim).size ≤ 21) : (rHead a).size ≤ 100 := by
  unfold rHead
  simp only [ByteArray.size_append]
  have e1 : (⟨#[97, 114, 109, 32]⟩ : ByteArray).size = 4 := rfl
  have e2 : (⟨#[32]⟩ : ByteArray).size = 1 := rfl
  have e3 : (⟨#[10]⟩ : ByteArray).size = 1 := rfl
  omega
theorem text_int {n : Int} (h : 0 ≤ n ∧ n ≤ 1000000) (w : World) : Calls Tryz.prog 86 #[.int .i64 n] w fun e w' => e = .returned (.string (itoB n)) ∧ Below w.heap.size w w' := by
  obtain ⟨k, rfl⟩ := Int.eq_ofNat_of_zero_le h.1
  exact Text_any k w (by omega)
set_option maxRecDepth 100000 in
set_option maxHeartbeats 8000000 in
theorem rPrint_any (B : Nat) (A : Option Addr) (n c : Nat) (a : Ar) (w : World) (hM : MsAt w B A n a.m) (hB : B ≤ w.heap.size) (hE : armE a = 0) :
    Calls Tryz.prog 25 #[.agg #[.slice A n c, .int .i64 a.lo, .int .i64 a.hi, .int .i64 a.cur, .int .i64 a.lim]] w fun e w' => e = .returned (.string (rPr a)) ∧ Below w.heap.size w w' := by
  have hF := fit_of hE
  obtain ⟨hl, hat⟩ := md_at hM
  have h16 := hF.n16
  have HT1 := Lib.hid (fun W => text_int (n := a.lo) (by have := hF.lo; omega) W)
  have HT2 := Lib.hid (fun W => text_int (n := a.hi) (by have := hF.hi; omega) W)
  have HT3 := Lib.hid (fun W => text_int (n := a.cur) (by have := hF.cur; omega) W)
  have HT4 := Lib.hid (fun W => text_int (n := a.lim) (by have := hF.lim; omega) W)
  have z1 := itoB_size (n := a.lo) (by have := hF.lo; omega) (by have := hF.lo; omega)
  have z2 := itoB_size (n := a.hi) (by have := hF.hi; omega) (by have := hF.hi; omega)
  have z3 := itoB_size (n := a.cur) (by have := hF.cur; omega) (by have := hF.cur; omega)
  have z4 := itoB_size (n := a.lim) (by have := hF.lim; omega) (by have := hF.lim; omega)
  have hrs := rHead_size z1 z2 z3 z4
  have HFit := Lib.hid hF
  have HL := Lib.hid hl
  have HA := Lib.hid hat
  have HH : Hid (rHead a = ((((((((⟨#[97, 114, 109, 32]⟩ ++ itoB a.lo) ++ ⟨#[32]⟩) ++ itoB a.hi) ++ ⟨#[32]⟩) ++ itoB a.cur) ++ ⟨#[32]⟩) ++ itoB a.lim) ++ ⟨#[10]⟩)) := Lib.hid rfl
  have HP : Hid (rPr a = (a.m.drop 0).foldl rAdd (rHead a)) := Lib.hid rfl
  generalize rHead a = hd at *
  generalize itoB a.lo = s1 at *
  generalize itoB a.hi = s2 at *
  generalize itoB a.cur = s3 at *
  generalize itoB a.lim = s4 at *
  have hn : n ≤ 16 := by omega
  clear hM hl hat hF h16 hE
  go_enter Tryz.func25, Tryz.ntmps25
  go_wp2_with fail
  (refine wp_region_calm [] [0, 1, 2, 3, 4, 5, 6, 7, 8, 9, 10, 11, 12, 13, 14, 15, 16, 17, 18, 19, 20, 21, 22] 0 (by kernel_rfl) rfl (by kernel_rfl) (by kernel_rfl) (by kernel_rfl) ?_; simp only [pickB, List.filterMap_cons, List.filterMap_nil, List.getElem?_toArray, List.getElem?_cons_zero, List.getElem?_cons_succ]; (repeat (first | ((first | (with_reducible refine quietL_plain rfl (fun K hK => ?_)) | (with_reducible refine quietL_want (by with_unfolding_all rfl) (fun K hK => ?_))); (apply Exists.intro; refine ⟨fun wx hx => ?_, ?_⟩; (· (have hcx := ifs_ex hx); simp [go_sem, *, ↓IntWalk.iteOmega] <;> (first | rfl | exact ⟨rfl, rfl⟩ | (first | (with_reducible exact calls_B (HT1.out _)) | (with_reducible exact calls_B (HT2.out _)) | (with_reducible exact calls_B (HT3.out _)) | (with_reducible exact calls_B (HT4.out _))))); (simp only [Act.put, List.setIfInBounds_toArray, List.set_cons_zero, List.set_cons_succ]; refine hK _ ?_; clear hK K))) | ((with_reducible refine quietL_skip (by with_unfolding_all rfl) ?_); simp only [Act.put, List.setIfInBounds_toArray, List.set_cons_zero, List.set_cons_succ]))); refine quietL_nil ?_)
  (refine anyB_end (by kernel_rfl) ?_; intro w2 hb2; have hs2 := hb2.size; (try simp at hs2); simp only [Calm])
  rw [← HH.out]
  have BA0 : Blk w2 w.heap.size 26 #[.slice A n c, .int .i64 a.lo, .int .i64 a.hi, .int .i64 a.cur, .int .i64 a.lim] := bk_
  have hb0 : Below w.heap.size w w2 := bl_
  have HBA := Lib.hid BA0
  have HB0 := Lib.hid hb0
  clear BA0 hb0 hb2 hs2 HT1 HT2 HT3 HT4 z1 z2 z3 z4 HH
  go_wp2_with fail
  go_loopw [3, 4] (fun s3 s4 wr => ∃ (k : Nat) (t : ByteArray), k ≤ n ∧ s3 = .string t ∧ s4 = .int .i64 (k : Int) ∧ t.size ≤ 100 + 70 * k ∧ Hid (rPr a = (a.m.drop k).foldl rAdd t) ∧ Below w.heap.size w wr ∧ Blk wr w.heap.size 26 #[.slice A n c, .int .i64 a.lo, .int .i64 a.hi, .int .i64 a.cur, .int .i64 a.lim]) (fun _ s4 _ => n - (intOf s4).toNat)
  case atStart => exact ⟨0, hd, by omega, rfl, rfl, by omega, HP, HB0.out, HBA.out⟩
  case round =>
    clear HBA HB0 HP
    obtain ⟨k, t, hk, rfl, rfl, htz, hp, hb, bA⟩ := hrel
    have hsr := hb.size
    have cA := bA.cell
    have lA := bA.lt
    have BA := Lib.hid bA
    have HB := Lib.hid hb
    clear bA
    by_cases hlt : k < n
    · have hkl : k < a.m.length := by rw [HL.out]; exact hlt
      obtain ⟨b, o, eA, hbb, z0, z1, z2, z3⟩ := HA.out k hkl
      have kb : ∀ i, wr.cell? ⟨b, i, none⟩ = w.cell? ⟨b, i, none⟩ := fun i => hb.cell (p := ⟨b, i, none⟩) (by simp; omega)
      rw [← kb] at z0 z1 z2 z3
      clear kb
      have hbw : b < wr.heap.size := by omega
      subst eA
      have hmem := List.getElem_mem hkl
      have hq := HFit.out.q _ hmem
      have hnz := nameB_size (HFit.out.nm _ hmem)
      have HD : Hid ((a.m.drop k).foldl rAdd t = (a.m.drop (k + 1)).foldl rAdd (rAdd t a.m[k])) := Lib.hid (by rw [List.drop_eq_getElem_cons hkl]; rfl)
      have hsz := rAdd_size t hnz hq
      have HRA : Hid (∀ x, rAdd t x = (((((((t ++ ⟨#[109, 111, 100, 117, 108, 101, 32]⟩) ++ x.n) ++ ⟨#[32]⟩) ++ itoB x.q) ++ ⟨#[32]⟩) ++ stBr x) ++ ⟨#[10]⟩)) := Lib.hid (fun _ => rfl)
      have HT := Lib.hid (fun W => text_int (n := a.m[k].q) (by omega) W)
      have HSt := Lib.hid (fun W => State_any a.m[k] W)
      have zq := itoB_size (n := a.m[k].q) (by omega) (by omega)
      have zs := stBr_size a.m[k]
      have HR1 := Lib.hid (HRA.out a.m[k])
      clear hmem HRA hb
      generalize rAdd t a.m[k] = t2 at *
      generalize stBr a.m[k] = ss at *
      generalize itoB a.m[k].q = sq at *
      generalize a.m[k] = x at *
      obtain ⟨xn, xq, xo, xb⟩ := x
      dsimp only at z0 z1 z2 z3 hq hnz HT HSt HR1
      go_wp2_with fail
      (refine wp_region_calm [] [0, 1, 2, 3, 4, 5, 6, 7, 8, 9, 10, 11, 12, 13, 14, 15, 16, 17, 18, 19, 20, 21, 22, 23, 24, 25, 26, 27] 0 (by kernel_rfl) rfl (by kernel_rfl) (by kernel_rfl) (by kernel_rfl) ?_; simp only [pickB, List.filterMap_cons, List.filterMap_nil, List.getElem?_toArray, List.getElem?_cons_zero, List.getElem?_cons_succ]; (repeat (first | ((first | (with_reducible refine quietL_plain rfl (fun K hK => ?_)) | (with_reducible refine quietL_want (by with_unfolding_all rfl) (fun K hK => ?_))); (apply Exists.intro; refine ⟨fun wx hx => ?_, ?_⟩; (· (have hcx := ifs_ex hx); simp [go_sem, *, ↓IntWalk.iteOmega] <;> (first | rfl | exact ⟨rfl, rfl⟩ | (first | (with_reducible exact calls_B (HT.out _)) | (with_reducible exact calls_B (HSt.out _))))); (simp only [Act.put, List.setIfInBounds_toArray, List.set_cons_zero, List.set_cons_succ]; refine hK _ ?_; clear hK K))) | ((with_reducible refine quietL_skip (by with_unfolding_all rfl) ?_); simp only [Act.put, List.setIfInBounds_toArray, List.set_cons_zero, List.set_cons_succ]))); refine quietL_nil ?_)
      (refine anyB_end (by kernel_rfl) ?_; intro w3 hb3; have hs3 := hb3.size; (try simp at hs3); simp only [Calm])
      rw [← HR1.out]
      have BA3 := BA.out.kept hb3
      have HB3 := HB.out.trans (hb3.mono hsr)
      go_wp2_with fail
      go_roundw
      case rel => exact ⟨k + 1, t2, by omega, rfl, by go_num, by omega, by rw [hp.out]; exact HD, HB3, BA3⟩
      case measure => simp [intOf]; omega
    · obtain rfl : k = n := by omega
      go_wp2_with fail
      go_ret
      exact ⟨by rw [hp.out, List.drop_eq_nil_of_le (by rw [HL.out]; exact Nat.le_refl _)]; rfl, HB.out⟩
end Go.Proofs.YtjanojmgnpfjeaaGreatDoor
