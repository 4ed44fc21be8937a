/- Joined texts: YM YN YO YP YQ YR. -/
import Derived.Test.YtphlojgmfkgeiaaGreatDoorKc
import Derived.Laws.RangeAny
import Derived.Laws.RangeString
/- Energized, earthed, separated, secured. -/
namespace Go.Proofs.YtphlojgmfkgeiaaGreatDoor
open Go.RowKit Go.Sort Go.Shelf
set_option linter.unusedSimpArgs false
set_option linter.unusedVariables false
attribute [local go_sem] cell_if frozen_if grow_cell
theorem srcAt_get {s : List Sec} {k : Nat} (h : k < s.length) : srcAt s (k : Int) = s[k].src := by
  simp [srcAt, h]
theorem fedc_any (g : Nat) (B : Nat) (A0 A1 A2 : Option Addr) (n0 n1 n2 c0 c1 c2 : Nat) (y : Yd) (w : World) (hY : YdAt w B A0 A1 A2 n0 n1 n2 y) (hB : B ≤ w.heap.size) (hP : Parts y) (i : Int) (hi : i ∈ rng y.s.length) (hb : Blk w g 41 #[.slice A0 n0 c0, .slice A1 n1 c1, .slice A2 n2 c2]) :
    Calls Tryz.prog 188 #[.int .i64 i, .pointer (some ⟨g, 0, none⟩)] w fun e w' => e = .returned (.bool (srcAt y.s i)) ∧ Below w.heap.size w w' := by
  obtain ⟨h0, h1⟩ := mem_rng.1 hi
  obtain ⟨k, rfl⟩ := Int.eq_ofNat_of_zero_le h0
  have hk : k < y.s.length := by omega
  obtain ⟨hl, ha⟩ := sec_at hY.hs
  have h9 := hP.n8
  obtain ⟨b, o, rfl, hbb, z0, z1⟩ := ha k hk
  have hc := hb.cell
  have hn : (k : Int) < (n0 : Int) := by omega
  rw [srcAt_get hk]
  generalize y.s[k].src = s at *
  clear ha hY hP hl hi h1 hk z0
  go_enter Tryz.func188, Tryz.ntmps188
  go_wp2
  go_ret
  exact ⟨rfl, bl_⟩
theorem fed_any (B : Nat) (A0 A1 A2 : Option Addr) (n0 n1 n2 c0 c1 c2 : Nat) (y : Yd) (w : World) (hY : YdAt w B A0 A1 A2 n0 n1 n2 y) (hB : B ≤ w.heap.size) (hP : Parts y) (A : Option Addr) (n c : Nat) (l : List Int) (hr : Reads w w.heap.size 1 A n (l.map (.int .i64))) (hn : n ≤ 1000) (hl : ∀ i ∈ l, i ∈ rng y.s.length) :
    Calls Tryz.prog 159 #[.agg #[.slice A0 n0 c0, .slice A1 n1 c1, .slice A2 n2 c2], .slice A n c] w fun e w' => e = .returned (.bool (fedB y l)) ∧ Below w.heap.size w w' := by
  have hq : Pred Tryz.prog 188 #[] #[.pointer (some ⟨w.heap.size, 0, none⟩)] (fun x => Value.int .i64 x) l (fun i => srcAt y.s i) (w.alloc (.cells #[.slice A0 n0 c0, .slice A1 n1 c1, .slice A2 n2 c2] 41)) := fun W hW x hx =>
    fedc_any w.heap.size B A0 A1 A2 n0 n1 n2 c0 c1 c2 y W (hY.below ((bl_ : Below B w (w.alloc (.cells #[.slice A0 n0 c0, .slice A1 n1 c1, .slice A2 n2 c2] 41))).trans (hW.mono (by simp; omega)))) (by have := hW.size; simp at this; omega) hP x (hl x hx) ((Blk.new _ _ _).kept hW)
  have hC := Lib.hid (ContainsFuncI_any 188 _ w.heap.size A n c l (fun i => srcAt y.s i) _ (hr.alloc (Nat.le_refl _) _) (by simp) hn (enters_of Tryz.func188 (by kernel_rfl) rfl) hq)
  clear hq hr hY hP
  go_enter Tryz.func159, Tryz.ntmps159
  go_wp2_with (go_at_call 85; refine hC.out.mono ?_; rintro e w1 ⟨rfl, hb1⟩)
  go_ret
  exact ⟨rfl, bl_⟩
set_option maxRecDepth 100000 in
theorem energized_any (B : Nat) (A0 A1 A2 : Option Addr) (n0 n1 n2 c0 c1 c2 : Nat) (y : Yd) (w : World) (hY : YdAt w B A0 A1 A2 n0 n1 n2 y) (hB : B ≤ w.heap.size) (hP : Parts y) (i : Int) (hi : i ∈ rng y.s.length) :
    Calls Tryz.prog 96 #[.agg #[.slice A0 n0 c0, .slice A1 n1 c1, .slice A2 n2 c2], .int .i64 i] w fun e w' => e = .returned (.bool (energB y i)) ∧ Below w.heap.size w w' := by
  have hl1 := (sec_at hY.hs).1
  have hl2 := (sw_at hY.hw).1
  have h8 := hP.n8
  have h8' := hP.w8
  have hlen := isl_len (all := false) hP.ends hi
  have hin : Hid (∀ z ∈ y.isl false i, z ∈ rng y.s.length) := fun z hz => isl_in hP.ends hi hz
  have HLn : Hid ((y.isl false i).length ≤ y.s.length) := hlen
  have HY := Lib.hid hY
  have HP := Lib.hid hP
  have HI := Lib.hid hi
  have HL1 := Lib.hid hl1
  have HL2 := Lib.hid hl2
  clear hY hP hi hl1 hl2 hlen
  go_enter Tryz.func96, Tryz.ntmps96
  go_wp2_with fail
  (refine wp_region_calm [] [0, 1, 2] 3 (by kernel_rfl) rfl (by kernel_rfl) (by kernel_rfl) (by kernel_rfl) ?_; simp only [pickB, List.filterMap_cons, List.filterMap_nil, List.getElem?_toArray, List.getElem?_cons_zero, List.getElem?_cons_succ]; (repeat ((with_reducible refine quietL_plain rfl (fun K hK => ?_)); (apply Exists.intro; refine ⟨fun wx hx => ?_, ?_⟩; (· (have hcx := ifs_ex hx); simp [go_sem, *, ↓IntWalk.iteOmega] <;> (first | rfl | exact ⟨rfl, rfl⟩ | fail)); (simp only [Act.put, List.setIfInBounds_toArray, List.set_cons_zero, List.set_cons_succ]; refine hK _ ?_; clear hK K)))); refine quietL_nil ?_)
  (refine anyB_one (i := 3) (by kernel_rfl) rfl rfl ?_; intro wa hba K hK; obtain ⟨hca, hfa⟩ := ifs_of hba; have hsa := hba.size; (try simp at hsa); go_wp2_with fail)
  refine (island_any B A0 A1 A2 n0 n1 n2 c0 c1 c2 y i false _ (HY.out.below bl_) (by omega) HP.out.ends HI.out (by omega) (by have := HL2.out; omega)).mono ?_
  (rintro e wb ⟨Ab, capb, rfl, hrb, hbb⟩; have hsb := hbb.size; have HRb := Lib.hid hrb; clear hrb; (try simp at hsb))
  (go_wp2; refine ⟨xs_, ?_⟩)
  (refine anyB_one (i := 4) (by kernel_rfl) rfl rfl ?_; intro wc hbc K hK; obtain ⟨hcc, hfc⟩ := ifs_of hbc; have hsc := hbc.size; (try simp at hsc); go_wp2_with fail)
  refine (fed_any B A0 A1 A2 n0 n1 n2 c0 c1 c2 y _ (HY.out.below bl_) (by omega) HP.out Ab _ capb (y.isl false i) ((HRb.out.below (by assumption)).more (by assumption)) (by have := HLn.out; omega) hin.out).mono ?_
  (rintro e wd ⟨rfl, hbd⟩; have hsd := hbd.size; (try simp at hsd))
  (go_wp2; refine ⟨xs_, ?_⟩)
  (refine anyB_one (i := 5) (by kernel_rfl) rfl rfl ?_; intro we hbe K hK; obtain ⟨hce, hfe⟩ := ifs_of hbe; have hse := hbe.size; (try simp at hse); go_wp2; refine ⟨xs_, ?_⟩)
  (refine anyB_end (by kernel_rfl) ?_; intro wf hbf; obtain ⟨hcf, hff⟩ := ifs_of hbf; have hsf := hbf.size; (try simp at hsf); simp only [Calm]; go_wp2_with fail)
  go_ret
  exact ⟨rfl, bl_⟩
set_option maxRecDepth 100000 in
theorem separated_any (B : Nat) (A0 A1 A2 : Option Addr) (n0 n1 n2 c0 c1 c2 : Nat) (y : Yd) (w : World) (hY : YdAt w B A0 A1 A2 n0 n1 n2 y) (hB : B ≤ w.heap.size) (hP : Parts y) (i : Int) (hi : i ∈ rng y.s.length) :
    Calls Tryz.prog 98 #[.agg #[.slice A0 n0 c0, .slice A1 n1 c1, .slice A2 n2 c2], .int .i64 i] w fun e w' => e = .returned (.bool (sepB y i)) ∧ Below w.heap.size w w' := by
  have hl1 := (sec_at hY.hs).1
  have hl2 := (sw_at hY.hw).1
  have h8 := hP.n8
  have h8' := hP.w8
  have hlen := isl_len (all := true) hP.ends hi
  have hin : Hid (∀ z ∈ y.isl true i, z ∈ rng y.s.length) := fun z hz => isl_in hP.ends hi hz
  have HLn : Hid ((y.isl true i).length ≤ y.s.length) := hlen
  have HY := Lib.hid hY
  have HP := Lib.hid hP
  have HI := Lib.hid hi
  have HL1 := Lib.hid hl1
  have HL2 := Lib.hid hl2
  clear hY hP hi hl1 hl2 hlen
  unfold sepB
  go_enter Tryz.func98, Tryz.ntmps98
  go_wp2_with fail
  (refine wp_region_calm [] [0, 1, 2] 4 (by kernel_rfl) rfl (by kernel_rfl) (by kernel_rfl) (by kernel_rfl) ?_; simp only [pickB, List.filterMap_cons, List.filterMap_nil, List.getElem?_toArray, List.getElem?_cons_zero, List.getElem?_cons_succ]; (repeat ((with_reducible refine quietL_plain rfl (fun K hK => ?_)); (apply Exists.intro; refine ⟨fun wx hx => ?_, ?_⟩; (· (have hcx := ifs_ex hx); simp [go_sem, *, ↓IntWalk.iteOmega] <;> (first | rfl | exact ⟨rfl, rfl⟩ | fail)); (simp only [Act.put, List.setIfInBounds_toArray, List.set_cons_zero, List.set_cons_succ]; refine hK _ ?_; clear hK K)))); refine quietL_nil ?_)
  (refine anyB_one (i := 3) (by kernel_rfl) rfl rfl ?_; intro wa hba K hK; obtain ⟨hca, hfa⟩ := ifs_of hba; have hsa := hba.size; (try simp at hsa); go_wp2_with fail)
  refine (island_any B A0 A1 A2 n0 n1 n2 c0 c1 c2 y i true _ (HY.out.below bl_) (by omega) HP.out.ends HI.out (by omega) (by have := HL2.out; omega)).mono ?_
  (rintro e wb ⟨Ab, capb, rfl, hrb, hbb⟩; have hsb := hbb.size; have HRb := Lib.hid hrb; clear hrb; (try simp at hsb))
  (go_wp2; refine ⟨xs_, ?_⟩)
  (refine anyB_one (i := 4) (by kernel_rfl) rfl rfl ?_; intro wc hbc K hK; obtain ⟨hcc, hfc⟩ := ifs_of hbc; have hsc := hbc.size; (try simp at hsc); go_wp2_with fail)
  refine (fed_any B A0 A1 A2 n0 n1 n2 c0 c1 c2 y _ (HY.out.below bl_) (by omega) HP.out Ab _ capb (y.isl true i) ((HRb.out.below (by assumption)).more (by assumption)) (by have := HLn.out; omega) hin.out).mono ?_
  (rintro e wd ⟨rfl, hbd⟩; have hsd := hbd.size; (try simp at hsd))
  (go_wp2; refine ⟨xs_, ?_⟩)
  (refine anyB_one (i := 5) (by kernel_rfl) rfl rfl ?_; intro we hbe K hK; obtain ⟨hce, hfe⟩ := ifs_of hbe; have hse := hbe.size; (try simp at hse); go_wp2; refine ⟨xs_, ?_⟩)
  (refine anyB_one (i := 6) (by kernel_rfl) rfl rfl ?_; intro wg hbg K hK; obtain ⟨hcg, hfg⟩ := ifs_of hbg; have hsg := hbg.size; (try simp at hsg); go_wp2; refine ⟨xs_, ?_⟩)
  (refine anyB_end (by kernel_rfl) ?_; intro wf hbf; obtain ⟨hcf, hff⟩ := ifs_of hbf; have hsf := hbf.size; (try simp at hsf); simp only [Calm]; go_wp2_with fail)
  go_ret
  exact ⟨rfl, bl_⟩
theorem earthedc_any (g : Nat) (A : Option Addr) (n c : Nat) (l : List Int) (x : Sw) (w : World) (hr : Reads w w.heap.size 1 A n (l.map (.int .i64))) (hn : n ≤ 1000) (hb : Blk w g 29 #[.slice A n c]) :
    Calls Tryz.prog 161 #[.agg #[.string x.n, .string x.k, .int .i64 x.a, .int .i64 x.b, .bool x.c], .pointer (some ⟨g, 0, none⟩)] w fun e w' => e = .returned (.bool (earthHit l x)) ∧ Below w.heap.size w w' := by
  obtain ⟨xn, xk, xa, xb, xc⟩ := x
  have hlt := hb.lt
  have hc := hb.cell 0
  simp at hc
  have HC := fun W (hW : Below w.heap.size w W) => ContainsI_any w.heap.size A n c l xa W (hr.below hW) (by unfold maxLen; omega)
  have HCH := Lib.hid HC
  clear HC hr hb
  unfold earthHit earthL
  dsimp only
  generalize hasI l xa = q at *
  cases h0 : (xk.toList == [101, 97, 114, 116, 104]) <;> cases xc
  all_goals
    go_enter Tryz.func161, Tryz.ntmps161
    go_wp2_with (go_at_call 89; refine (HCH.out _ bl_).mono ?_; rintro e w1 ⟨rfl, rfl⟩)
    go_ret
    exact ⟨by first | rfl | (simp; done), bl_⟩
theorem earthed_any (B : Nat) (A0 A1 A2 : Option Addr) (n0 n1 n2 c0 c1 c2 : Nat) (y : Yd) (w : World) (hY : YdAt w B A0 A1 A2 n0 n1 n2 y) (hB : B ≤ w.heap.size) (hP : Parts y) (i : Int) (hi : i ∈ rng y.s.length) :
    Calls Tryz.prog 97 #[.agg #[.slice A0 n0 c0, .slice A1 n1 c1, .slice A2 n2 c2], .int .i64 i] w fun e w' => e = .returned (.bool (earthedB y i)) ∧ Below w.heap.size w w' := by
  have hl1 := (sec_at hY.hs).1
  have hl2 := (sw_at hY.hw).1
  have h8 := hP.n8
  have h8' := hP.w8
  have hlen := isl_len (all := false) hP.ends hi
  have hin : Hid (∀ z ∈ y.isl false i, z ∈ rng y.s.length) := fun z hz => isl_in hP.ends hi hz
  have HLn : Hid ((y.isl false i).length ≤ y.s.length) := hlen
  have HY := Lib.hid hY
  have HP := Lib.hid hP
  have HI := Lib.hid hi
  have HL1 := Lib.hid hl1
  have HL2 := Lib.hid hl2
  clear hY hP hi hl1 hl2 hlen
  go_enter Tryz.func97, Tryz.ntmps97
  go_wp2_with fail
  refine (island_any B A0 A1 A2 n0 n1 n2 c0 c1 c2 y i false _ (HY.out.below bl_) (by simp; omega) HP.out.ends HI.out (by omega) (by have := HL2.out; omega)).mono ?_
  (rintro e wb ⟨Ab, capb, rfl, hrb, hbb⟩; have hsb := hbb.size; have HRb := Lib.hid hrb; clear hrb; (try simp at hsb))
  obtain ⟨hcb, hfb⟩ := ifs_of hbb; have hsb := hbb.size; (try simp at hsb)
  have hq : Pred Tryz.prog 161 #[] #[.pointer (some ⟨wb.heap.size, 0, none⟩)] (fun x => .agg #[.string x.n, .string x.k, .int .i64 x.a, .int .i64 x.b, .bool x.c]) y.w (earthHit (y.isl false i)) (wb.alloc (.cells #[.slice Ab (y.isl false i).length capb] 29)) := fun W hW x hx =>
    earthedc_any wb.heap.size Ab _ capb (y.isl false i) x W (((HRb.out.alloc (Nat.le_refl _) _).below (hW.mono (by simp))).more (by have := hW.size; simp at this; omega)) (by have := HLn.out; omega) ((Blk.new _ _ _).kept hW)
  have hC := Lib.hid (ContainsFuncSw_any 161 _ B A1 n1 c1 y.w _ _ ((HY.out.below ((Below.refl B w).alloc hB _ |>.trans ((hbb.mono (by simp; omega)).alloc (by omega) _))).hw) (by simp; omega) (by have := HL2.out; omega) (enters_of Tryz.func161 (by kernel_rfl) rfl) hq)
  clear hq
  go_wp2_with fail
  refine hC.out.mono ?_
  (rintro e wc ⟨rfl, hbc⟩; have hsc := hbc.size; (try simp at hsc))
  go_wp2_with fail
  go_ret
  exact ⟨rfl, bl_⟩
theorem secured_any (B : Nat) (A0 A1 A2 : Option Addr) (n0 n1 n2 c0 c1 c2 : Nat) (y : Yd) (w : World) (hY : YdAt w B A0 A1 A2 n0 n1 n2 y) (hB : B ≤ w.heap.size) (hP : Parts y) (i : Int) (hi : i ∈ rng y.s.length) :
    Calls Tryz.prog 99 #[.agg #[.slice A0 n0 c0, .slice A1 n1 c1, .slice A2 n2 c2], .int .i64 i] w fun e w' => e = .returned (.bool (secB y i)) ∧ Below w.heap.size w w' := by
  have h1 := Lib.hid (fun W hW hBW => separated_any B A0 A1 A2 n0 n1 n2 c0 c1 c2 y W (hY.below hW) hBW hP i hi)
  have h2 := Lib.hid (fun W hW hBW => earthed_any B A0 A1 A2 n0 n1 n2 c0 c1 c2 y W (hY.below hW) hBW hP i hi)
  unfold secB
  generalize sepB y i = p at *
  generalize earthedB y i = q at *
  clear hY hP hi
  cases p
  all_goals
    go_enter Tryz.func99, Tryz.ntmps99
    go_wp2_with (first | (go_at_call 98; refine (h1.out _ bl_ (by simp; omega)).mono ?_; (rintro e w1 ⟨rfl, hb1⟩; have hs1 := hb1.size; (try simp at hs1)); obtain ⟨hc1, hf1⟩ := ifs_of hb1; have hs1 := hb1.size; (try simp at hs1)) | (go_at_call 97; refine (h2.out _ bl_ (by omega)).mono ?_; (rintro e w2 ⟨rfl, hb2⟩; have hs2 := hb2.size; (try simp at hs2))))
    go_ret
    exact ⟨by first | rfl | (simp; done), bl_⟩
end Go.Proofs.YtphlojgmfkgeiaaGreatDoor
/- Those, short, open, sound. -/
namespace Go.Proofs.YtphlojgmfkgeiaaGreatDoor
open Go.RowKit Go.Sort Go.Shelf
set_option linter.unusedSimpArgs false
set_option linter.unusedVariables false
attribute [local go_sem] cell_if frozen_if grow_cell
theorem those_succ (k : Nat) (p : Int → Bool) : those (k + 1) p = those k p ++ (if p (k : Int) then [(k : Int)] else []) := by
  rw [those, rng_succ, List.filter_append]
  simp only [those, List.filter_cons, List.filter_nil]
theorem those_len (n : Nat) (p : Int → Bool) : (those n p).length ≤ n := by
  have := List.length_filter_le p (rng n)
  rw [rng_len] at this
  exact this
set_option maxHeartbeats 1000000 in
theorem those_any (g : Nat) (bs cap : Array Value) (B : Nat) (A0 A1 A2 : Option Addr) (n0 n1 n2 c0 c1 c2 : Nat) (y : Yd) (w : World) (p : Int → Bool) (h8 : n0 ≤ 9) (eg : Enters Tryz.prog g) (hp : Pred Tryz.prog g bs cap (fun x => Value.int .i64 x) (rng n0) p w) :
    Calls Tryz.prog 158 #[.agg #[.slice A0 n0 c0, .slice A1 n1 c1, .slice A2 n2 c2], .func (.func g) bs cap] w (IntsRes w (those n0 p)) := by
  unfold Enters at eg
  have HP := Lib.hid hp
  clear hp
  go_enter Tryz.func158, Tryz.ntmps158
  go_wp2_with fail
  go_loopw [5, 10] (fun v i wr => ∃ k : Nat, k ≤ n0 ∧ i = .int .i64 k ∧ wr.ownsRow w.heap.size 3 1 v (those k p).length ((those k p).map (.int .i64)) ∧ Below w.heap.size w wr) (fun _ i _ => n0 - (intOf i).toNat)
  case atStart => exact ⟨0, by omega, rfl, World.ownsRow_nil _ _ _ _, bl_⟩
  case round =>
    obtain ⟨k, hk, rfl, hO, hb⟩ := hrel
    have HO := Lib.hid hO
    clear hO
    have hs := hb.size
    by_cases hlt : k < n0
    · have HX := HP.out wr hb (k : Int) (mem_rng.2 ⟨by omega, by omega⟩)
      have Hs := Lib.hid (those_succ k p)
      have hl := those_len k p
      cases hq : p (k : Int) with
      | true =>
        rw [hq] at HX Hs
        have HXH := Lib.hid HX
        clear HX hq
        go_wp2_with fail
        refine HXH.out.mono ?_
        (rintro e w1 ⟨rfl, hb1⟩; have hs1 := hb1.size; (try simp at hs1))
        have HO1 := Lib.hid (own_kept HO.out hb1)
        clear HXH
        go_wp2_with (at_builtin; refine wpList_app 29 3 1 8 elemInt rfl (.tmp 16) (.tmp 18) rfl w.heap.size _ (those k p).length _ rfl HO1.out 1 rfl rfl ?h1 (by decide) ?h3 (by omega) (by omega) ?_)
        case h1 => rfl
        case h3 => unfold maxLen; omega
        intro g' cap' w' hown' hb' _ hs'
        go_wp2
        go_roundw
        case rel => exact ⟨k + 1, by omega, by go_num, by rw [Hs.out]; simpa using hown', (hb.trans (hb1.mono hs)).trans hb'⟩
        case measure => simp [intOf]; omega
      | false =>
        rw [hq] at HX Hs
        have HXH := Lib.hid HX
        clear HX hq
        go_wp2_with fail
        refine HXH.out.mono ?_
        (rintro e w1 ⟨rfl, hb1⟩; have hs1 := hb1.size; (try simp at hs1))
        have HO1 := Lib.hid (own_kept HO.out hb1)
        clear HXH
        go_wp2
        go_roundw
        case rel => exact ⟨k + 1, by omega, by go_num, by rw [Hs.out]; simpa using HO1.out, hb.trans (hb1.mono hs)⟩
        case measure => simp [intOf]; omega
    · obtain rfl : k = n0 := by omega
      obtain ⟨A', cap', rfl, _, _, hrd⟩ := own_form HO.out
      have HD := Lib.hid hrd
      clear hrd
      go_wp2
      go_ret
      exact ⟨A', cap', rfl, HD.out, hb⟩
theorem shortc_any (g : Nat) (B : Nat) (A0 A1 A2 : Option Addr) (n0 n1 n2 c0 c1 c2 : Nat) (y : Yd) (w : World) (hY : YdAt w B A0 A1 A2 n0 n1 n2 y) (hB : B ≤ w.heap.size) (hP : Parts y) (i : Int) (hi : i ∈ rng y.s.length) (hb : Blk w g 41 #[.slice A0 n0 c0, .slice A1 n1 c1, .slice A2 n2 c2]) :
    Calls Tryz.prog 190 #[.int .i64 i, .pointer (some ⟨g, 0, none⟩)] w fun e w' => e = .returned (.bool (energB y i && earthedB y i)) ∧ Below w.heap.size w w' := by
  have h1 := Lib.hid (fun W hW hBW => energized_any B A0 A1 A2 n0 n1 n2 c0 c1 c2 y W (hY.below hW) hBW hP i hi)
  have h2 := Lib.hid (fun W hW hBW => earthed_any B A0 A1 A2 n0 n1 n2 c0 c1 c2 y W (hY.below hW) hBW hP i hi)
  generalize energB y i = p at *
  generalize earthedB y i = q at *
  have hc := hb.cell
  have hlt := hb.lt
  clear hY hP hi hb
  cases p
  all_goals
    go_enter Tryz.func190, Tryz.ntmps190
    go_wp2_with (first | (go_at_call 96; refine (h1.out _ bl_ (by omega)).mono ?_; (rintro e w1 ⟨rfl, hb1⟩; have hs1 := hb1.size; (try simp at hs1)); obtain ⟨hc1, hf1⟩ := ifs_of hb1; have hs1 := hb1.size; (try simp at hs1)) | (go_at_call 97; refine (h2.out _ bl_ (by omega)).mono ?_; (rintro e w2 ⟨rfl, hb2⟩; have hs2 := hb2.size; (try simp at hs2))))
    go_ret
    exact ⟨by first | rfl | (simp; done), bl_⟩
theorem short_len (n : Nat) (p : Int → Bool) : decide (0 < (those n p).length) = (rng n).any p := by
  unfold those
  generalize rng n = l
  induction l with
  | nil => rfl
  | cons a r ih =>
    rw [List.filter_cons, List.any_cons]
    cases h : p a with
    | true => simp
    | false => simpa using ih
theorem short_any (B : Nat) (A0 A1 A2 : Option Addr) (n0 n1 n2 c0 c1 c2 : Nat) (y : Yd) (w : World) (hY : YdAt w B A0 A1 A2 n0 n1 n2 y) (hB : B ≤ w.heap.size) (hP : Parts y) :
    Calls Tryz.prog 167 #[.agg #[.slice A0 n0 c0, .slice A1 n1 c1, .slice A2 n2 c2]] w fun e w' => e = .returned (.bool (shortB y)) ∧ Below w.heap.size w w' := by
  have hl1 := (sec_at hY.hs).1
  have h8 := hP.n8
  have hq : Pred Tryz.prog 190 #[] #[.pointer (some ⟨w.heap.size, 0, none⟩)] (fun x => Value.int .i64 x) (rng n0) (fun i => energB y i && earthedB y i) (w.alloc (.cells #[.slice A0 n0 c0, .slice A1 n1 c1, .slice A2 n2 c2] 41)) := fun W hW x hx =>
    shortc_any w.heap.size B A0 A1 A2 n0 n1 n2 c0 c1 c2 y W (hY.below ((bl_ : Below B w (w.alloc (.cells #[.slice A0 n0 c0, .slice A1 n1 c1, .slice A2 n2 c2] 41))).trans (hW.mono (by simp; omega)))) (by have := hW.size; simp at this; omega) hP x (by rw [hl1]; exact hx) ((Blk.new _ _ _).kept hW)
  have hC := Lib.hid (those_any 190 #[] _ B A0 A1 A2 n0 n1 n2 c0 c1 c2 y _ _ (by omega) (enters_of Tryz.func190 (by kernel_rfl) rfl) hq)
  have hS : Hid (decide (0 < (those n0 fun i => energB y i && earthedB y i).length) = shortB y) := by show _ = _; rw [short_len, ← hl1]; rfl
  rw [← hS.out]
  clear hq hY hP hl1 h8 hS
  generalize (those n0 fun i => energB y i && earthedB y i) = l at *
  go_enter Tryz.func167, Tryz.ntmps167
  go_wp2_with (go_at_call 158; refine hC.out.mono ?_; (rintro e w1 ⟨A1, cap1, rfl, hr1, hb1⟩; have hs1 := hb1.size; have HR1 := Lib.hid hr1; clear hr1; (try simp at hs1)))
  go_ret
  exact ⟨by first | rfl | (simp; done), bl_⟩
theorem openc_any (g : Nat) (B : Nat) (A0 A1 A2 : Option Addr) (n0 n1 n2 c0 c1 c2 : Nat) (y : Yd) (w : World) (hY : YdAt w B A0 A1 A2 n0 n1 n2 y) (hB : B ≤ w.heap.size) (hP : Parts y) (x : Pm) (hx : x ∈ y.p) (hb : Blk w g 41 #[.slice A0 n0 c0, .slice A1 n1 c1, .slice A2 n2 c2]) :
    Calls Tryz.prog 191 #[.agg #[.string x.n, .int .i64 x.s], .pointer (some ⟨g, 0, none⟩)] w fun e w' => e = .returned (.bool (!secB y x.s)) ∧ Below w.heap.size w w' := by
  have h1 := Lib.hid (fun W hW hBW => secured_any B A0 A1 A2 n0 n1 n2 c0 c1 c2 y W (hY.below hW) hBW hP x.s (mem_rng.2 (hP.ps x hx)))
  obtain ⟨xn, xs⟩ := x
  dsimp only at h1 ⊢
  generalize secB y xs = p at *
  have hc := hb.cell
  have hlt := hb.lt
  clear hY hP hx hb
  go_enter Tryz.func191, Tryz.ntmps191
  go_wp2_with (go_at_call 99; refine (h1.out _ bl_ (by simp; omega)).mono ?_; (rintro e w1 ⟨rfl, hb1⟩; have hs1 := hb1.size; (try simp at hs1)))
  go_ret
  exact ⟨by first | rfl | (simp; done), bl_⟩
theorem open_any (B : Nat) (A0 A1 A2 : Option Addr) (n0 n1 n2 c0 c1 c2 : Nat) (y : Yd) (w : World) (hY : YdAt w B A0 A1 A2 n0 n1 n2 y) (hB : B ≤ w.heap.size) (hP : Parts y) :
    Calls Tryz.prog 168 #[.agg #[.slice A0 n0 c0, .slice A1 n1 c1, .slice A2 n2 c2]] w fun e w' => e = .returned (.bool (openB y)) ∧ Below w.heap.size w w' := by
  have hl2 := (pm_at hY.hp).1
  have h8 := hP.p8
  have hq : Pred Tryz.prog 191 #[] #[.pointer (some ⟨w.heap.size, 0, none⟩)] (fun x => Value.agg #[.string x.n, .int .i64 x.s]) y.p (fun x => !secB y x.s) (w.alloc (.cells #[.slice A0 n0 c0, .slice A1 n1 c1, .slice A2 n2 c2] 41)) := fun W hW x hx =>
    openc_any w.heap.size B A0 A1 A2 n0 n1 n2 c0 c1 c2 y W (hY.below ((bl_ : Below B w (w.alloc (.cells #[.slice A0 n0 c0, .slice A1 n1 c1, .slice A2 n2 c2] 41))).trans (hW.mono (by simp; omega)))) (by have := hW.size; simp at this; omega) hP x hx ((Blk.new _ _ _).kept hW)
  have hC := Lib.hid (ContainsFuncPm_any 191 _ B A2 n2 c2 y.p _ _ ((hY.below (bl_ : Below B w (w.alloc (.cells #[.slice A0 n0 c0, .slice A1 n1 c1, .slice A2 n2 c2] 41)))).hp) (by simp; omega) (by omega) (enters_of Tryz.func191 (by kernel_rfl) rfl) hq)
  show Calls Tryz.prog 168 #[.agg #[.slice A0 n0 c0, .slice A1 n1 c1, .slice A2 n2 c2]] w fun e w' => e = .returned (.bool (y.p.any fun x => !secB y x.s)) ∧ Below w.heap.size w w'
  generalize (y.p.any fun x => !secB y x.s) = q at *
  clear hq hY hP hl2 h8
  go_enter Tryz.func168, Tryz.ntmps168
  go_wp2_with (go_at_call 100; refine hC.out.mono ?_; (rintro e w1 ⟨rfl, hb1⟩; have hs1 := hb1.size; (try simp at hs1)))
  go_ret
  exact ⟨rfl, bl_⟩
theorem sound_any (B : Nat) (A0 A1 A2 : Option Addr) (n0 n1 n2 c0 c1 c2 : Nat) (y : Yd) (w : World) (hY : YdAt w B A0 A1 A2 n0 n1 n2 y) (hB : B ≤ w.heap.size) (hP : Parts y) :
    Calls Tryz.prog 118 #[.agg #[.slice A0 n0 c0, .slice A1 n1 c1, .slice A2 n2 c2]] w fun e w' => e = .returned (.bool (soundB y)) ∧ Below w.heap.size w w' := by
  have h1 := Lib.hid (fun W hW hBW => short_any B A0 A1 A2 n0 n1 n2 c0 c1 c2 y W (hY.below hW) hBW hP)
  have h2 := Lib.hid (fun W hW hBW => open_any B A0 A1 A2 n0 n1 n2 c0 c1 c2 y W (hY.below hW) hBW hP)
  unfold soundB
  generalize shortB y = p at *
  generalize openB y = q at *
  clear hY hP
  cases p
  all_goals
    go_enter Tryz.func118, Tryz.ntmps118
    go_wp2_with (first | (go_at_call 167; refine (h1.out _ bl_ (by simp; omega)).mono ?_; (rintro e w1 ⟨rfl, hb1⟩; have hs1 := hb1.size; (try simp at hs1)); obtain ⟨hc1, hf1⟩ := ifs_of hb1; have hs1 := hb1.size; (try simp at hs1)) | (go_at_call 168; refine (h2.out _ bl_ (by omega)).mono ?_; (rintro e w2 ⟨rfl, hb2⟩; have hs2 := hb2.size; (try simp at hs2))))
    go_ret
    exact ⟨by first | rfl | (simp; done), bl_⟩
end Go.Proofs.YtphlojgmfkgeiaaGreatDoor
/- Names. -/
namespace Go.Proofs.YtphlojgmfkgeiaaGreatDoor
open Go.RowKit Go.Sort Go.Shelf
set_option linter.unusedSimpArgs false
set_option linter.unusedVariables false
attribute [local go_sem] cell_if frozen_if grow_cell
theorem loop_list (bs : ByteArray) : ∀ (n i : Nat) (r : List UInt8), bs.size - i = n → ByteArray.toList.loop bs i r = r.reverse ++ bs.data.toList.drop i := by
  intro n
  induction n with
  | zero =>
    intro i r h
    rw [ByteArray.toList.loop, if_neg (by omega), List.drop_eq_nil_of_le (by simp; omega), List.append_nil]
  | succ n ih =>
    intro i r h
    have hi : i < bs.size := by omega
    rw [ByteArray.toList.loop, if_pos hi, ih (i + 1) _ (by omega), List.drop_eq_getElem_cons (show i < bs.data.toList.length by simpa using hi)]
    have e : bs.get! i = bs.data.toList[i]'(by simpa using hi) := by
      simp [ByteArray.get!, getElem!_pos, hi]
    rw [e]
    simp
theorem toList_data (s : ByteArray) : s.toList = s.data.toList := by
  have := loop_list s _ 0 [] rfl
  simpa [ByteArray.toList] using this
theorem letter_z {c : UInt8} {z : Int} (h : (c.toNat : Int) = z) : letterB c = decide (65 ≤ z ∧ z ≤ 90 ∨ 97 ≤ z ∧ z ≤ 122) := by
  subst h
  unfold letterB
  rw [Bool.eq_iff_iff]
  simp [UInt8.le_iff_toNat_le]
  omega
theorem tail_z {c : UInt8} {z : Int} (h : (c.toNat : Int) = z) : tailB c = decide ((65 ≤ z ∧ z ≤ 90 ∨ 97 ≤ z ∧ z ≤ 122) ∨ 48 ≤ z ∧ z ≤ 57 ∨ z = 95) := by
  unfold tailB
  rw [letter_z h]
  subst h
  rw [Bool.eq_iff_iff]
  simp [UInt8.le_iff_toNat_le, ← UInt8.toNat_inj]
  omega
theorem scan_at (s : ByteArray) {p : Nat} (hp : p < s.size) : scanB (decide (p = 0)) (s.data.toList.drop p) = ((if p = 0 then letterB s[p] else tailB s[p]) && scanB (decide (p + 1 = 0)) (s.data.toList.drop (p + 1))) := by
  have e : s.data.toList.drop p = s[p] :: s.data.toList.drop (p + 1) := by
    rw [List.drop_eq_getElem_cons (by simpa using hp)]; rfl
  rw [e]
  by_cases h : p = 0
  · subst h; simp [scanB]
  · simp [scanB, h]
theorem name_no {s : ByteArray} (h : scanB true s.data.toList = false) : nameB s = false := by rw [nameB, h]; rfl
theorem name_yes {s : ByteArray} (h : scanB true s.data.toList = true) (h0 : 0 < s.size) : nameB s = decide (s.size ≤ 24) := by
  rw [nameB, h]
  have e : s.data.toList.length = s.size := by simp
  have e2 : s.data.toList.isEmpty = false := by
    cases hl : s.data.toList with
    | nil => rw [hl] at e; simp at e; omega
    | cons a r => rfl
  rw [e, e2]
  simp
theorem name_nil {s : ByteArray} (h0 : s.size = 0) : nameB s = false := by
  have e : s.data.toList.length = s.size := by simp
  have : s.data.toList = [] := List.length_eq_zero_iff.1 (by omega)
  rw [nameB, this]; rfl
theorem str_nil {s : ByteArray} (h0 : s.size = 0) : s.toList = [] ∧ s.toList.isEmpty = true := by
  have e : s.data.toList.length = s.size := by simp
  have : s.data.toList = [] := List.length_eq_zero_iff.1 (by omega)
  rw [toList_data, this]
  exact ⟨rfl, rfl⟩
theorem str_some {s : ByteArray} (h0 : 0 < s.size) : s.toList.isEmpty = false := by
  have e : s.data.toList.length = s.size := by simp
  rw [toList_data]
  cases hl : s.data.toList with
  | nil => rw [hl] at e; simp at e; omega
  | cons a r => rfl
set_option maxRecDepth 100000 in
set_option maxHeartbeats 4000000 in
theorem IsName_any (s : ByteArray) (w : World) (hs : s.size ≤ maxLen) :
    Calls Tryz.prog 171 #[.string s] w fun e w' => e = .returned (.bool (nameB s)) ∧ Below w.heap.size w w' := by
  unfold maxLen at hs
  go_enter Tryz.func171, Tryz.ntmps171
  go_wp2_with fail
  go_loopw [2] (fun _ wr => ∃ p : Nat, p ≤ s.size ∧ wr = w.iter s p ∧ scanB true s.data.toList = scanB (decide (p = 0)) (s.data.toList.drop p)) (fun _ wr => s.size - wr.iterPos w.heap.size)
  case atStart => exact ⟨0, by omega, rfl, rfl⟩
  case round =>
    obtain ⟨p, hp, rfl, hf⟩ := hrel
    have Hf := Lib.hid hf; clear hf
    by_cases hlt : p < s.size
    · have Hd := Lib.hid (scan_at s hlt)
      by_cases ha : (s[p]).toNat < 128
      · have hnx : ∀ ty, (Instr.next (.pointer (some ⟨w.heap.size, 0, none⟩)) true ty).run Tryz.prog (w.iter s p) = _ := fun ty => run_next_ascii w s p ty hlt ha
        obtain ⟨z, hz⟩ : ∃ z : Int, ((s[p]).toNat : Int) = z := ⟨_, rfl⟩
        rw [hz] at hnx
        have Hl := Lib.hid (letter_z hz)
        have Ht := Lib.hid (tail_z hz)
        have hz0 : 0 ≤ z := by omega
        have hz1 : z < 128 := by omega
        clear hz ha
        generalize s[p] = c at *
        rcases (show (z < 48) ∨ (48 ≤ z ∧ z ≤ 57) ∨ (58 ≤ z ∧ z ≤ 64) ∨ (65 ≤ z ∧ z ≤ 90) ∨ (91 ≤ z ∧ z ≤ 94) ∨ (z = 95) ∨ (z = 96) ∨ (97 ≤ z ∧ z ≤ 122) ∨ (123 ≤ z) from by omega) with h | h | h | h | h | h | h | h | h
        all_goals
          (first | (have t1 : decide (65 ≤ z) = true := by simp; omega) | (have t1 : decide (65 ≤ z) = false := by simp; omega))
          (first | (have t2 : decide (z ≤ 90) = true := by simp; omega) | (have t2 : decide (z ≤ 90) = false := by simp; omega))
          (first | (have t3 : decide (97 ≤ z) = true := by simp; omega) | (have t3 : decide (97 ≤ z) = false := by simp; omega))
          (first | (have t4 : decide (z ≤ 122) = true := by simp; omega) | (have t4 : decide (z ≤ 122) = false := by simp; omega))
          (first | (have t5 : decide (z < 48) = true := by simp; omega) | (have t5 : decide (z < 48) = false := by simp; omega))
          (first | (have t6 : decide (57 < z) = true := by simp; omega) | (have t6 : decide (57 < z) = false := by simp; omega))
          (first | (have t7 : (z != 95) = true := by simp; omega) | (have t7 : (z != 95) = false := by simp; omega))
          have H := Lib.hid h
          clear h hz0 hz1
          by_cases hp0 : p = 0
          · subst hp0
            have hno : Hid (¬ (65 ≤ z ∧ z ≤ 90 ∨ 97 ≤ z ∧ z ≤ 122) → nameB s = false) := fun hn => name_no (by have h1 := Hf.out; rw [Hd.out, if_pos rfl, Hl.out, decide_eq_false hn] at h1; simpa using h1)
            have hyes : Hid ((65 ≤ z ∧ z ≤ 90 ∨ 97 ≤ z ∧ z ≤ 122) → scanB true s.data.toList = scanB (decide (0 + 1 = 0)) (s.data.toList.drop (0 + 1))) := fun hn => by have h1 := Hf.out; rw [Hd.out, if_pos rfl, Hl.out, decide_eq_true hn] at h1; simpa using h1
            go_wp2
            first
              | (go_ret; exact ⟨by first | (rw [hno.out (by have := H.out; omega)]; done) | (rw [hno.out (by have := H.out; omega)]; rfl), (Below.refl w.heap.size w).alloc (Nat.le_refl _) _⟩)
              | (go_roundw; (case rel => exact ⟨0 + 1, by omega, rfl, hyes.out (by have := H.out; omega)⟩); (case measure => simp; omega))
          · have hp1 : ((p : Int) == 0) = false := by simp; omega
            have hno : Hid (¬ ((65 ≤ z ∧ z ≤ 90 ∨ 97 ≤ z ∧ z ≤ 122) ∨ 48 ≤ z ∧ z ≤ 57 ∨ z = 95) → nameB s = false) := fun hn => name_no (by have h1 := Hf.out; rw [Hd.out, if_neg hp0, Ht.out, decide_eq_false hn] at h1; simpa using h1)
            have hyes : Hid (((65 ≤ z ∧ z ≤ 90 ∨ 97 ≤ z ∧ z ≤ 122) ∨ 48 ≤ z ∧ z ≤ 57 ∨ z = 95) → scanB true s.data.toList = scanB (decide (p + 1 = 0)) (s.data.toList.drop (p + 1))) := fun hn => by have h1 := Hf.out; rw [Hd.out, if_neg hp0, Ht.out, decide_eq_true hn] at h1; simpa using h1
            go_wp2
            first
              | (go_ret; exact ⟨by first | (rw [hno.out (by have := H.out; omega)]; done) | (rw [hno.out (by have := H.out; omega)]; rfl), (Below.refl w.heap.size w).alloc (Nat.le_refl _) _⟩)
              | (go_roundw; (case rel => exact ⟨p + 1, by omega, rfl, hyes.out (by have := H.out; omega)⟩); (case measure => simp; omega))
      · have hnx : ∀ ty, (Instr.next (.pointer (some ⟨w.heap.size, 0, none⟩)) true ty).run Tryz.prog (w.iter s p) = _ := fun ty => run_next_any w s p ty hlt
        have hh := (decode_high s p hlt (by omega)).1
        have hz : 128 ≤ ((s[p]).toNat : Int) := by omega
        have Hl := Lib.hid (letter_z (c := s[p]) rfl)
        have Ht := Lib.hid (tail_z (c := s[p]) rfl)
        have hno : Hid (nameB s = false) := name_no (by
          have h1 := Hf.out
          rw [Hd.out] at h1
          rw [h1]
          by_cases hp0 : p = 0
          · rw [if_pos hp0, Hl.out, decide_eq_false (by omega)]; rfl
          · rw [if_neg hp0, Ht.out, decide_eq_false (by omega)]; rfl)
        obtain ⟨z, hz'⟩ : ∃ z : Int, ((Utf8.decode s p).1 : Int) = z := ⟨_, rfl⟩
        rw [hz'] at hnx
        have t1 : decide (65 ≤ z) = true := by simp; omega
        have t2 : decide (z ≤ 90) = false := by simp; omega
        have t3 : decide (97 ≤ z) = true := by simp; omega
        have t4 : decide (z ≤ 122) = false := by simp; omega
        have t5 : decide (z < 48) = false := by simp; omega
        have t6 : decide (57 < z) = true := by simp; omega
        have t7 : (z != 95) = true := by simp; omega
        clear hz hz' hh ha Hd Hl Ht Hf
        by_cases hp0 : p = 0
        · subst hp0
          go_wp2
          go_ret
          exact ⟨by rw [hno.out]; rfl, (Below.refl w.heap.size w).alloc (Nat.le_refl _) _⟩
        · have hp1 : ((p : Int) == 0) = false := by simp; omega
          go_wp2
          go_ret
          exact ⟨by rw [hno.out]; rfl, (Below.refl w.heap.size w).alloc (Nat.le_refl _) _⟩
    · have hnx : ∀ ty, (Instr.next (.pointer (some ⟨w.heap.size, 0, none⟩)) true ty).run Tryz.prog (w.iter s p) = _ := fun ty => run_next_end w s p ty hlt
      obtain rfl : p = s.size := by omega
      have hsc : Hid (scanB true s.data.toList = true) := by show _ = _; rw [Hf.out, List.drop_eq_nil_of_le (by simp)]; cases decide (s.size = 0) <;> rfl
      by_cases h0 : s.size = 0
      · obtain ⟨e1, e2⟩ := str_nil h0
        have hno := Lib.hid (name_nil h0)
        clear h0
        go_wp2
        go_ret
        exact ⟨by rw [hno.out]; rfl, (Below.refl w.heap.size w).alloc (Nat.le_refl _) _⟩
      · have hyes := Lib.hid (name_yes hsc.out (by omega))
        have e1 := str_some (s := s) (by omega)
        have e3 : Hid (decide (s.size ≤ 24) = decide ((s.size : Int) ≤ 24)) := by show _ = _; rw [decide_eq_decide]; omega
        go_wp2
        go_ret
        exact ⟨by rw [hyes.out, e3.out]; rfl, (Below.refl w.heap.size w).alloc (Nat.le_refl _) _⟩
theorem isLetter_any (c : UInt8) (w : World) : Calls Tryz.prog 199 #[.int .u8 c.toNat] w fun e w' => e = .returned (.bool (letterB c)) ∧ w = w' := by
  have hz : ∃ z : Int, (c.toNat : Int) = z := ⟨_, rfl⟩
  obtain ⟨z, hz⟩ := hz
  have hz0 : 0 ≤ z := by omega
  rw [letter_z hz, hz]
  have Hz := Lib.hid hz
  clear hz
  by_cases h1 : 65 ≤ z <;> by_cases h2 : z ≤ 90 <;> by_cases h3 : 97 ≤ z <;> by_cases h4 : z ≤ 122
  all_goals
    (first | (exfalso; omega) | skip)
  all_goals
    go_enter Tryz.func199, Tryz.ntmps199
    go_wp2
    go_ret
    exact ⟨by simp [h1, h2, h3, h4], rfl⟩
theorem isDigit_any (c : UInt8) (w : World) : Calls Tryz.prog 200 #[.int .u8 c.toNat] w fun e w' => e = .returned (.bool (48 ≤ c && c ≤ 57)) ∧ w = w' := by
  have hz : ∃ z : Int, (c.toNat : Int) = z := ⟨_, rfl⟩
  obtain ⟨z, hz⟩ := hz
  have hz0 : 0 ≤ z := by omega
  have e : (48 ≤ c && c ≤ 57) = decide (48 ≤ z ∧ z ≤ 57) := by
    subst hz
    rw [Bool.eq_iff_iff]
    simp [UInt8.le_iff_toNat_le]
    omega
  rw [e, hz]
  have Hz := Lib.hid hz
  clear hz e
  by_cases h1 : 48 ≤ z <;> by_cases h2 : z ≤ 57
  all_goals
    go_enter Tryz.func200, Tryz.ntmps200
    go_wp2
    go_ret
    exact ⟨by simp [h1, h2], rfl⟩
end Go.Proofs.YtphlojgmfkgeiaaGreatDoor
/- Names: the reference; checks of names. -/
namespace Go.Proofs.YtphlojgmfkgeiaaGreatDoor
open Go.RowKit Go.Sort Go.Shelf
set_option linter.unusedSimpArgs false
set_option linter.unusedVariables false
attribute [local go_sem] cell_if frozen_if grow_cell
theorem scan_first (s : ByteArray) (h : 0 < s.size) : scanB true s.data.toList = (letterB s[0] && scanB false (s.data.toList.drop 1)) := by
  have := scan_at s h
  simpa using this
theorem scan_next (s : ByteArray) {p : Nat} (hp : 0 < p) (h : p < s.size) : scanB false (s.data.toList.drop p) = (tailB s[p] && scanB false (s.data.toList.drop (p + 1))) := by
  have := scan_at s h
  rw [decide_eq_false (by omega), decide_eq_false (by omega), if_neg (by omega)] at this
  exact this
theorem rIsName_any (s : ByteArray) (w : World) (hs : s.size ≤ maxLen) :
    Calls Tryz.prog 175 #[.string s] w fun e w' => e = .returned (.bool (nameB s)) ∧ w = w' := by
  unfold maxLen at hs
  by_cases h0 : s.size = 0
  · have hno := Lib.hid (name_nil h0)
    have e0 : ((s.size : Int) == 0) = true := by rw [h0]; rfl
    have H0 := Lib.hid h0
    clear h0
    go_enter Tryz.func175, Tryz.ntmps175
    go_wp2
    go_ret
    exact ⟨by rw [hno.out]; rfl, rfl⟩
  · have hpos : 0 < s.size := by omega
    have e0 : ((s.size : Int) == 0) = false := beq_eq_false_iff_ne.2 (by omega)
    by_cases h24 : s.size ≤ 24
    · have e1 : decide (24 < (s.size : Int)) = false := by simp; omega
      have HF := Lib.hid (scan_first s hpos)
      have HY : Hid (scanB true s.data.toList = true → nameB s = true) := fun h => by rw [name_yes h hpos]; simpa using h24
      have HN : Hid (scanB true s.data.toList = false → nameB s = false) := fun h => name_no h
      have HC := Lib.hid (fun w => isLetter_any s[0] w)
      cases hq : letterB s[0] with
      | false =>
        rw [hq] at HF HC
        clear hq
        go_enter Tryz.func175, Tryz.ntmps175
        go_wp2_with (go_at_call 199; refine (HC.out _).mono ?_; rintro e w1 ⟨rfl, rfl⟩)
        go_ret
        exact ⟨by rw [HN.out (by rw [HF.out]; rfl)]; rfl, rfl⟩
      | true =>
        rw [hq] at HF HC
        clear hq
        go_enter Tryz.func175, Tryz.ntmps175
        go_wp2_with (go_at_call 199; refine (HC.out _).mono ?_; rintro e w1 ⟨rfl, rfl⟩)
        go_loop [3] (fun i => ∃ p : Nat, 0 < p ∧ p ≤ s.size ∧ i = .int .i64 p ∧ scanB true s.data.toList = scanB false (s.data.toList.drop p)) (fun i => s.size - (intOf i).toNat)
        case atStart => exact ⟨1, by omega, by omega, rfl, by rw [HF.out]; rfl⟩
        case round =>
          obtain ⟨p, hp0, hp, rfl, hf⟩ := hrel
          have Hf := Lib.hid hf; clear hf
          by_cases hlt : p < s.size
          · have Hd := Lib.hid (scan_next s hp0 hlt)
            have HL := Lib.hid (fun w => isLetter_any s[p] w)
            have HD := Lib.hid (fun w => isDigit_any s[p] w)
            have HT : Hid (tailB s[p] = (letterB s[p] || (48 ≤ s[p] && s[p] ≤ 57) || s[p] == 95)) := rfl
            have HU : Hid ((((s[p]).toNat : Int) != 95) = !(s[p] == 95)) := by
              show _ = _
              rw [Bool.eq_iff_iff]
              simp [← UInt8.toNat_inj]
              omega
            cases ha : letterB s[p] with
            | true =>
              rw [ha] at HL HT
              clear ha
              go_wp2_with (go_at_call 199; refine (HL.out _).mono ?_; rintro e w1 ⟨rfl, rfl⟩)
              go_round
              case rel => exact ⟨p + 1, by omega, by omega, by go_num, by rw [Hf.out, Hd.out, HT.out]; rfl⟩
              case measure => simp [intOf]; omega
            | false =>
              cases hb : (decide (48 ≤ s[p]) && decide (s[p] ≤ 57)) with
              | true =>
                rw [ha, hb] at HT
                rw [ha] at HL
                rw [hb] at HD
                clear ha hb
                go_wp2_with (first | (go_at_call 199; refine (HL.out _).mono ?_; rintro e w1 ⟨rfl, rfl⟩) | (go_at_call 200; refine (HD.out _).mono ?_; rintro e w1 ⟨rfl, rfl⟩))
                go_round
                case rel => exact ⟨p + 1, by omega, by omega, by go_num, by rw [Hf.out, Hd.out, HT.out]; rfl⟩
                case measure => simp [intOf]; omega
              | false =>
                rw [ha, hb] at HT
                rw [ha] at HL
                rw [hb] at HD
                clear ha hb
                cases hu : (s[p] == 95) with
                | true =>
                  have hu' : (((s[p]).toNat : Int) != 95) = false := by rw [HU.out, hu]; rfl
                  have HUU := Lib.hid hu
                  clear hu
                  go_wp2_with (first | (go_at_call 199; refine (HL.out _).mono ?_; rintro e w1 ⟨rfl, rfl⟩) | (go_at_call 200; refine (HD.out _).mono ?_; rintro e w1 ⟨rfl, rfl⟩))
                  go_round
                  case rel => exact ⟨p + 1, by omega, by omega, by go_num, by rw [Hf.out, Hd.out, HT.out, HUU.out]; rfl⟩
                  case measure => simp [intOf]; omega
                | false =>
                  have hu' : (((s[p]).toNat : Int) != 95) = true := by rw [HU.out, hu]; rfl
                  have HUU := Lib.hid hu
                  clear hu
                  go_wp2_with (first | (go_at_call 199; refine (HL.out _).mono ?_; rintro e w1 ⟨rfl, rfl⟩) | (go_at_call 200; refine (HD.out _).mono ?_; rintro e w1 ⟨rfl, rfl⟩))
                  go_ret
                  exact ⟨by rw [HN.out (by rw [Hf.out, Hd.out, HT.out, HUU.out]; rfl)]; rfl, rfl⟩
          · obtain rfl : p = s.size := by omega
            go_wp2
            go_ret
            exact ⟨by rw [HY.out (by rw [Hf.out, List.drop_eq_nil_of_le (by simp)]; rfl)]; rfl, rfl⟩
    · have e1 : decide (24 < (s.size : Int)) = true := by simp; omega
      have hno : Hid (nameB s = false) := by show _ = _; rw [nameB, decide_eq_false (by simp; omega)]; simp
      go_enter Tryz.func175, Tryz.ntmps175
      go_wp2
      go_ret
      exact ⟨by rw [hno.out]; rfl, rfl⟩
end Go.Proofs.YtphlojgmfkgeiaaGreatDoor
/- Checks of names; lists of names. -/
namespace Go.Proofs.YtphlojgmfkgeiaaGreatDoor
open Go.RowKit Go.Sort Go.Shelf
set_option linter.unusedSimpArgs false
set_option linter.unusedVariables false
attribute [local go_sem] cell_if frozen_if grow_cell
theorem elemStr : Elem Tryz.prog 56 9 1 16 := elem_of Tryz.underlying56 (z := .string ⟨#[]⟩) (by kernel_rfl) rfl (by decide)
def WordsRes (w : World) (zs : List ByteArray) (e : Ending) (w' : World) : Prop := ∃ A cap, e = .returned (.slice A zs.length cap) ∧ Reads w' w'.heap.size 1 A zs.length (zs.map .string) ∧ zs.length ≤ cap ∧ cap ≤ maxLen ∧ Below w.heap.size w w'
theorem CheckName_any (s : ByteArray) (w : World) (hs : s.size ≤ maxLen) :
    Calls Tryz.prog 140 #[.string s] w fun e w' => e = .returned (.int .i64 (nameE s)) ∧ w = w' := by
  unfold nameE
  have H := Lib.hid (rIsName_any s w hs)
  generalize nameB s = q at *
  clear hs
  go_enter Tryz.func140, Tryz.ntmps140
  go_wp2_with (first | (go_at_call 175; refine H.out.mono ?_; rintro e w1 ⟨rfl, rfl⟩) | (go_at_call 62; refine (rWhen_any _ _ _).mono ?_; rintro e w1 ⟨rfl, rfl⟩))
  go_ret
  exact ⟨rfl, rfl⟩
theorem pfirst2 (a b : Int) (w : World) (t : TypeId) : Calls Tryz.prog 108 #[.slice (some ⟨w.heap.size, 0, none⟩) 2 2] (w.alloc (.cells #[.int .i64 a, .int .i64 b] t)) fun e w' => e = .returned (.int .i64 (firstE [a, b])) ∧ w.alloc (.cells #[.int .i64 a, .int .i64 b] t) = w' :=
  pfirst_new [a, b] w t 2 rfl (by unfold maxLen; decide)
theorem checkName_any (s : ByteArray) (B : Nat) (A : Option Addr) (n c : Nat) (zs : List ByteArray) (w : World) (hs : s.size ≤ maxLen) (hr : Reads w B 1 A n (zs.map .string)) (hB : B ≤ w.heap.size) (hn : n ≤ maxLen) :
    Calls Tryz.prog 133 #[.string s, .slice A n c] w fun e w' => e = .returned (.int .i64 (firstE [nameE s, whenE (hasW zs s) 9])) ∧ Below w.heap.size w w' := by
  have H1 := Lib.hid (IsName_any s w hs)
  have H2 := Lib.hid (fun W (hW : Below B w W) => ContainsW_any B A n c zs s W (hr.below hW) hn)
  unfold nameE
  generalize nameB s = q at *
  generalize hasW zs s = r at *
  clear hs hr
  go_enter Tryz.func133, Tryz.ntmps133
  go_wp2_with fail
  refine H1.out.mono ?_
  (rintro e w1 ⟨rfl, hb1⟩; have hs1 := hb1.size; (try simp at hs1))
  go_wp2_with fail
  refine (pwhen_any _ _ _).mono ?_
  rintro e w2 ⟨rfl, rfl⟩
  go_wp2_with fail
  refine (H2.out _ (hb1.mono hB)).mono ?_
  rintro e w2 ⟨rfl, rfl⟩
  go_wp2_with fail
  refine (pwhen_any _ _ _).mono ?_
  rintro e w2 ⟨rfl, rfl⟩
  go_wp2_with fail
  refine (pfirst2 _ _ _ _).mono ?_
  rintro e w2 ⟨rfl, rfl⟩
  go_wp2_with fail
  go_ret
  exact ⟨rfl, bl_⟩
theorem Secname_any (x : Sec) (w : World) : Calls Tryz.prog 110 #[.agg #[.string x.n, .bool x.src]] w fun e w' => e = .returned (.string x.n) ∧ Below w.heap.size w w' := by
  go_enter Tryz.func110, Tryz.ntmps110
  go_wp2
  go_ret
  exact ⟨rfl, bl_⟩
theorem Swname_any (x : Sw) (w : World) : Calls Tryz.prog 112 #[.agg #[.string x.n, .string x.k, .int .i64 x.a, .int .i64 x.b, .bool x.c]] w fun e w' => e = .returned (.string x.n) ∧ Below w.heap.size w w' := by
  go_enter Tryz.func112, Tryz.ntmps112
  go_wp2
  go_ret
  exact ⟨rfl, bl_⟩
theorem Pmname_any (x : Pm) (w : World) : Calls Tryz.prog 117 #[.agg #[.string x.n, .int .i64 x.s]] w fun e w' => e = .returned (.string x.n) ∧ Below w.heap.size w w' := by
  go_enter Tryz.func117, Tryz.ntmps117
  go_wp2
  go_ret
  exact ⟨rfl, bl_⟩
theorem mapSec_any (B : Nat) (A : Option Addr) (n c : Nat) (l : List Sec) (w : World) (hr : Reads w B 2 A n (secs l)) (hB : B ≤ w.heap.size) (hn : n ≤ 1000) :
    Calls Tryz.prog 165 #[.slice A n c, .func (.func 110) #[] #[]] w (WordsRes w (l.map Sec.n)) := by
  obtain ⟨hl, ha⟩ := sec_at hr
  have HL := Lib.hid hl
  have HA := Lib.hid ha
  clear hl ha hr
  go_enter Tryz.func165, Tryz.ntmps165
  go_wp2_with fail
  go_loopw [5, 10] (fun v i wr => ∃ k : Nat, k ≤ n ∧ i = .int .i64 k ∧ wr.ownsRow w.heap.size 9 1 v k (((l.take k).map Sec.n).map .string) ∧ Below w.heap.size w wr) (fun _ i _ => n - (intOf i).toNat)
  case atStart => exact ⟨0, by omega, rfl, World.ownsRow_nil _ _ _ _, bl_⟩
  case round =>
    obtain ⟨k, hk, rfl, hO, hb⟩ := hrel
    have HO := Lib.hid hO
    clear hO
    have hs := hb.size
    by_cases hlt : k < n
    · have hkl : k < l.length := by rw [HL.out]; exact hlt
      obtain ⟨b, o, eA, hbb, hz⟩ := HA.out k hkl
      have kb : ∀ i, wr.cell? ⟨b, i, none⟩ = w.cell? ⟨b, i, none⟩ := fun i => hb.cell (p := ⟨b, i, none⟩) (by simp; omega)
      simp only [← kb] at hz
      clear kb
      subst eA
      have Hd : Hid (((l.take (k + 1)).map Sec.n).map Value.string = ((l.take k).map Sec.n).map Value.string ++ [Value.string l[k].n]) := by
        show _ = _
        rw [List.take_succ_eq_append_getElem hkl, List.map_append, List.map_append]; rfl
      generalize l[k] = x at *
      (obtain ⟨z0, z1⟩ := hz; obtain ⟨xn, xs⟩ := x; dsimp only at z0 z1 Hd)
      go_wp2_with (first | (go_at_call 110; refine (Secname_any ⟨xn, xs⟩ _).mono ?_; rintro e w1 ⟨rfl, hb1⟩; have hs1 := hb1.size; simp at hs1; have HO1 := Lib.hid (own_kept (HO.out.alloc _) hb1)) | (at_builtin; refine wpList_app 56 9 1 16 elemStr rfl (.tmp 14) (.tmp 18) rfl w.heap.size _ k _ rfl HO1.out 1 rfl rfl ?h1 (by decide) ?h3 (by omega) (by omega) ?_))
      case h1 => rfl
      case h3 => unfold maxLen; omega
      intro g' cap' w' hown' hb' _ hs'
      go_wp2
      go_roundw
      case rel => exact ⟨k + 1, by omega, by go_num, by rw [Hd.out]; simpa using hown', (hb.trans (((Below.refl _ _).alloc hs _).trans (hb1.mono (by simp; omega)))).trans hb'⟩
      case measure => simp [intOf]; omega
    · obtain rfl : k = n := by omega
      obtain ⟨A', cap', rfl, hc1, hc2, hrd⟩ := own_form HO.out
      have HC1 := Lib.hid hc1
      have HC2 := Lib.hid hc2
      clear hc1 hc2
      have HD := Lib.hid hrd
      clear hrd
      go_wp2
      go_ret
      have := HD.out
      rw [List.take_of_length_le (by rw [HL.out]; exact Nat.le_refl _)] at this
      exact ⟨A', cap', by rw [List.length_map, HL.out]; rfl, by rw [List.length_map, HL.out]; exact this, by rw [List.length_map, HL.out]; exact HC1.out, HC2.out, hb⟩
theorem mapSw_any (B : Nat) (A : Option Addr) (n c : Nat) (l : List Sw) (w : World) (hr : Reads w B 5 A n (sws l)) (hB : B ≤ w.heap.size) (hn : n ≤ 1000) :
    Calls Tryz.prog 166 #[.slice A n c, .func (.func 112) #[] #[]] w (WordsRes w (l.map Sw.n)) := by
  obtain ⟨hl, ha⟩ := sw_at hr
  have HL := Lib.hid hl
  have HA := Lib.hid ha
  clear hl ha hr
  go_enter Tryz.func166, Tryz.ntmps166
  go_wp2_with fail
  go_loopw [5, 10] (fun v i wr => ∃ k : Nat, k ≤ n ∧ i = .int .i64 k ∧ wr.ownsRow w.heap.size 9 1 v k (((l.take k).map Sw.n).map .string) ∧ Below w.heap.size w wr) (fun _ i _ => n - (intOf i).toNat)
  case atStart => exact ⟨0, by omega, rfl, World.ownsRow_nil _ _ _ _, bl_⟩
  case round =>
    obtain ⟨k, hk, rfl, hO, hb⟩ := hrel
    have HO := Lib.hid hO
    clear hO
    have hs := hb.size
    by_cases hlt : k < n
    · have hkl : k < l.length := by rw [HL.out]; exact hlt
      obtain ⟨b, o, eA, hbb, hz⟩ := HA.out k hkl
      have kb : ∀ i, wr.cell? ⟨b, i, none⟩ = w.cell? ⟨b, i, none⟩ := fun i => hb.cell (p := ⟨b, i, none⟩) (by simp; omega)
      simp only [← kb] at hz
      clear kb
      subst eA
      have Hd : Hid (((l.take (k + 1)).map Sw.n).map Value.string = ((l.take k).map Sw.n).map Value.string ++ [Value.string l[k].n]) := by
        show _ = _
        rw [List.take_succ_eq_append_getElem hkl, List.map_append, List.map_append]; rfl
      generalize l[k] = x at *
      (obtain ⟨z0, z1, z2, z3, z4⟩ := hz; obtain ⟨xn, xk, xa, xb, xc⟩ := x; dsimp only at z0 z1 z2 z3 z4 Hd)
      go_wp2_with (first | (go_at_call 112; refine (Swname_any ⟨xn, xk, xa, xb, xc⟩ _).mono ?_; rintro e w1 ⟨rfl, hb1⟩; have hs1 := hb1.size; simp at hs1; have HO1 := Lib.hid (own_kept (HO.out.alloc _) hb1)) | (at_builtin; refine wpList_app 56 9 1 16 elemStr rfl (.tmp 14) (.tmp 18) rfl w.heap.size _ k _ rfl HO1.out 1 rfl rfl ?h1 (by decide) ?h3 (by omega) (by omega) ?_))
      case h1 => rfl
      case h3 => unfold maxLen; omega
      intro g' cap' w' hown' hb' _ hs'
      go_wp2
      go_roundw
      case rel => exact ⟨k + 1, by omega, by go_num, by rw [Hd.out]; simpa using hown', (hb.trans (((Below.refl _ _).alloc hs _).trans (hb1.mono (by simp; omega)))).trans hb'⟩
      case measure => simp [intOf]; omega
    · obtain rfl : k = n := by omega
      obtain ⟨A', cap', rfl, hc1, hc2, hrd⟩ := own_form HO.out
      have HC1 := Lib.hid hc1
      have HC2 := Lib.hid hc2
      clear hc1 hc2
      have HD := Lib.hid hrd
      clear hrd
      go_wp2
      go_ret
      have := HD.out
      rw [List.take_of_length_le (by rw [HL.out]; exact Nat.le_refl _)] at this
      exact ⟨A', cap', by rw [List.length_map, HL.out]; rfl, by rw [List.length_map, HL.out]; exact this, by rw [List.length_map, HL.out]; exact HC1.out, HC2.out, hb⟩
theorem mapPm_any (B : Nat) (A : Option Addr) (n c : Nat) (l : List Pm) (w : World) (hr : Reads w B 2 A n (pms l)) (hB : B ≤ w.heap.size) (hn : n ≤ 1000) :
    Calls Tryz.prog 134 #[.slice A n c, .func (.func 117) #[] #[]] w (WordsRes w (l.map Pm.n)) := by
  obtain ⟨hl, ha⟩ := pm_at hr
  have HL := Lib.hid hl
  have HA := Lib.hid ha
  clear hl ha hr
  go_enter Tryz.func134, Tryz.ntmps134
  go_wp2_with fail
  go_loopw [5, 10] (fun v i wr => ∃ k : Nat, k ≤ n ∧ i = .int .i64 k ∧ wr.ownsRow w.heap.size 9 1 v k (((l.take k).map Pm.n).map .string) ∧ Below w.heap.size w wr) (fun _ i _ => n - (intOf i).toNat)
  case atStart => exact ⟨0, by omega, rfl, World.ownsRow_nil _ _ _ _, bl_⟩
  case round =>
    obtain ⟨k, hk, rfl, hO, hb⟩ := hrel
    have HO := Lib.hid hO
    clear hO
    have hs := hb.size
    by_cases hlt : k < n
    · have hkl : k < l.length := by rw [HL.out]; exact hlt
      obtain ⟨b, o, eA, hbb, hz⟩ := HA.out k hkl
      have kb : ∀ i, wr.cell? ⟨b, i, none⟩ = w.cell? ⟨b, i, none⟩ := fun i => hb.cell (p := ⟨b, i, none⟩) (by simp; omega)
      simp only [← kb] at hz
      clear kb
      subst eA
      have Hd : Hid (((l.take (k + 1)).map Pm.n).map Value.string = ((l.take k).map Pm.n).map Value.string ++ [Value.string l[k].n]) := by
        show _ = _
        rw [List.take_succ_eq_append_getElem hkl, List.map_append, List.map_append]; rfl
      generalize l[k] = x at *
      (obtain ⟨z0, z1⟩ := hz; obtain ⟨xn, xs⟩ := x; dsimp only at z0 z1 Hd)
      go_wp2_with (first | (go_at_call 117; refine (Pmname_any ⟨xn, xs⟩ _).mono ?_; rintro e w1 ⟨rfl, hb1⟩; have hs1 := hb1.size; simp at hs1; have HO1 := Lib.hid (own_kept (HO.out.alloc _) hb1)) | (at_builtin; refine wpList_app 56 9 1 16 elemStr rfl (.tmp 14) (.tmp 18) rfl w.heap.size _ k _ rfl HO1.out 1 rfl rfl ?h1 (by decide) ?h3 (by omega) (by omega) ?_))
      case h1 => rfl
      case h3 => unfold maxLen; omega
      intro g' cap' w' hown' hb' _ hs'
      go_wp2
      go_roundw
      case rel => exact ⟨k + 1, by omega, by go_num, by rw [Hd.out]; simpa using hown', (hb.trans (((Below.refl _ _).alloc hs _).trans (hb1.mono (by simp; omega)))).trans hb'⟩
      case measure => simp [intOf]; omega
    · obtain rfl : k = n := by omega
      obtain ⟨A', cap', rfl, hc1, hc2, hrd⟩ := own_form HO.out
      have HC1 := Lib.hid hc1
      have HC2 := Lib.hid hc2
      clear hc1 hc2
      have HD := Lib.hid hrd
      clear hrd
      go_wp2
      go_ret
      have := HD.out
      rw [List.take_of_length_le (by rw [HL.out]; exact Nat.le_refl _)] at this
      exact ⟨A', cap', by rw [List.length_map, HL.out]; rfl, by rw [List.length_map, HL.out]; exact this, by rw [List.length_map, HL.out]; exact HC1.out, HC2.out, hb⟩
end Go.Proofs.YtphlojgmfkgeiaaGreatDoor
/- Checks of lists. -/
namespace Go.Proofs.YtphlojgmfkgeiaaGreatDoor
open Go.RowKit Go.Sort Go.Shelf
set_option linter.unusedSimpArgs false
set_option linter.unusedVariables false
attribute [local go_sem] cell_if frozen_if grow_cell
theorem Ex.below {w w' : World} (h : Ex [] w w') : Below w.heap.size w w' := ⟨h.os, h.tape, h.output, h.size, fun k hk => h.block k hk (by simp)⟩
/-- A function value that hands back a number at all elements of a list. -/
def PredC {α : Type} (P : Program) (g : Nat) (bs cap : Array Value) (enc : α → Value) (l : List α) (p : α → Int) (w : World) : Prop :=
  ∀ W, Below w.heap.size w W → ∀ x ∈ l, Calls P g (bs ++ #[enc x] ++ cap) W fun e w' => e = .returned (.int .i64 (p x)) ∧ Below W.heap.size W w'
set_option maxRecDepth 100000 in
set_option maxHeartbeats 2000000 in
theorem checkAllSec_any (g : Nat) (bs cap : Array Value) (B : Nat) (A : Option Addr) (n c : Nat) (l : List Sec) (ck : Sec → Int) (w : World) (hr : Reads w B 2 A n (secs l)) (hB : B ≤ w.heap.size) (hn : n ≤ 400) (hs : ∀ x ∈ l, x.n.size ≤ maxLen) (eg : Enters Tryz.prog g) (hp : PredC Tryz.prog g bs cap (fun x => .agg #[.string x.n, .bool x.src]) l ck w) :
    Calls Tryz.prog 109 #[.slice A n c, .int .i64 8, .func (.func 110) #[] #[], .func (.func g) bs cap] w fun e w' => e = .returned (.int .i64 (chkAll (l.map fun x => (x.n, ck x)))) ∧ Below w.heap.size w w' := by
  obtain ⟨hl, ha⟩ := sec_at hr
  have HL := Lib.hid hl
  have HA := Lib.hid ha
  have HR := Lib.hid hr
  have HP := Lib.hid hp
  have HS := Lib.hid hs
  unfold Enters at eg
  clear hl ha hr hp hs
  by_cases hn8 : 8 < n
  · have e : chkAll (l.map fun x => (x.n, ck x)) = 5 := by rw [chkAll, List.length_map, if_pos (by rw [HL.out]; exact hn8)]
    have e8 : decide ((8 : Int) < (n : Int)) = true := by simp; omega
    rw [e]
    clear e
    go_enter Tryz.func109, Tryz.ntmps109
    go_wp2
    go_ret
    exact ⟨rfl, bl_⟩
  · have e : chkAll (l.map fun x => (x.n, ck x)) = chkGo [] (l.map fun x => (x.n, ck x)) := by rw [chkAll, List.length_map, if_neg (by rw [HL.out]; exact hn8)]
    have e8 : decide ((8 : Int) < (n : Int)) = false := by simp; omega
    have HE := Lib.hid e
    clear e
    go_enter Tryz.func109, Tryz.ntmps109
    go_wp2_with fail
    refine (mapSec_any B A n c l w HR.out hB (by omega)).mono ?_
    rintro e w1 ⟨NA, ncap, rfl, hnr, hnc, hnm, hb1⟩
    have HN := Lib.hid hnr
    have hs1 := hb1.size
    unfold maxLen at hnm
    clear hnr
    go_wp2_with fail
    go_loopw [22] (fun i wr => ∃ k : Nat, k ≤ n ∧ i = .int .i64 k ∧ chkGo [] (l.map fun x => (x.n, ck x)) = chkGo ((l.map Sec.n).take k) ((l.map fun x => (x.n, ck x)).drop k) ∧ Below w1.heap.size w1 wr) (fun i _ => n - (intOf i).toNat)
    case atStart => exact ⟨0, by omega, rfl, rfl, bl_⟩
    case round =>
      obtain ⟨k, hk, rfl, hf, hb⟩ := hrel
      have Hf := Lib.hid hf
      clear hf
      have hsr := hb.size
      by_cases hlt : k < n
      · have hkl : k < l.length := by rw [HL.out]; exact hlt
        have hbw : Below w.heap.size w wr := hb1.trans (hb.mono hs1)
        obtain ⟨b, o, eA, hbb, hz⟩ := HA.out k hkl
        have kb : ∀ i, wr.cell? ⟨b, i, none⟩ = w.cell? ⟨b, i, none⟩ := fun i => hbw.cell (p := ⟨b, i, none⟩) (by simp; omega)
        simp only [← kb] at hz
        clear kb
        subst eA
        have HNr := Lib.hid (HN.out.below (B := w1.heap.size) hb)
        have hnl : (l.map Sec.n).length = n := by rw [List.length_map, HL.out]
        obtain ⟨nb, no, rfl, hnb, hncell⟩ := HNr.out.2 (by rw [hnl]; omega)
        have hz' : wr.cell? ⟨nb, no + k, none⟩ = some (.string l[k].n) := hncell k _ (by simp [hkl])
        have Hd : Hid ((l.map fun x => (x.n, ck x)).drop k = (l[k].n, ck l[k]) :: (l.map fun x => (x.n, ck x)).drop (k + 1)) := by
          show _ = _
          rw [List.drop_eq_getElem_cons (by simpa using hkl)]; simp
        have Ht : Hid ((l.map Sec.n).take (k + 1) = (l.map Sec.n).take k ++ [l[k].n]) := by
          show _ = _
          rw [List.take_succ_eq_append_getElem (by simpa using hkl)]; simp
        have hKk : Reads wr w1.heap.size 1 (some ⟨nb, no, none⟩) k (((l.map Sec.n).take k).map .string) := by
          refine ⟨by simp; omega, fun _ => ⟨nb, no, rfl, hnb, fun j u hu => ?_⟩⟩
          refine hncell j u ?_
          have hj : j < k := by have := (List.getElem?_eq_some_iff.1 hu).1; simp at this; omega
          rw [List.map_take, List.getElem?_take_of_lt hj] at hu
          exact hu
        have hCK := HP.out wr hbw l[k] (List.getElem_mem hkl)
        have hCKW := fun W (hW : Below w.heap.size w W) => HP.out W hW l[k] (List.getElem_mem hkl)
        have hsz := HS.out l[k] (List.getElem_mem hkl)
        have HCN := Lib.hid (fun W (hW : Below wr.heap.size wr W) => checkName_any l[k].n w1.heap.size (some ⟨nb, no, none⟩) k ncap ((l.map Sec.n).take k) W hsz (hKk.below (hW.mono hsr)) (by have := hW.size; omega) (by unfold maxLen; omega))
        have HCK := Lib.hid (fun W (hW : Below wr.heap.size wr W) => hCKW W (hbw.trans (hW.mono (by omega))))
        have hO : Hid (chkOne ((l.map Sec.n).take k) l[k].n (ck l[k]) = firstE [firstE [nameE l[k].n, whenE (hasW ((l.map Sec.n).take k) l[k].n) 9], ck l[k]]) := rfl
        have hkc : k ≤ ncap := by omega
        have hkc2 : ¬ ncap < k := by omega
        clear hKk hCK hCKW hsz hncell hnl
        generalize hq1 : firstE [nameE l[k].n, whenE (hasW ((l.map Sec.n).take k) l[k].n) 9] = q1 at *
        generalize hq2 : ck l[k] = q2 at *
        clear hq1 hq2
        generalize l[k] = x at *
        (obtain ⟨z0, z1⟩ := hz; obtain ⟨xn, xs⟩ := x; dsimp only at z0 z1 hz' Hd Ht HCN HCK hO)
        go_wp2_with fail
        (refine wp_region_calm [] [0, 1, 2, 3, 4, 5, 6, 7, 8, 9, 10] 3 (by kernel_rfl) rfl (by kernel_rfl) (by kernel_rfl) (by kernel_rfl) ?_; simp only [pickB, List.filterMap_cons, List.filterMap_nil, List.getElem?_toArray, List.getElem?_cons_zero, List.getElem?_cons_succ]; (repeat ((with_reducible refine quietL_plain rfl (fun K hK => ?_)); (apply Exists.intro; refine ⟨fun wx hx => ?_, ?_⟩; (· (have hcx := ifs_ex hx); simp [go_sem, *, ↓IntWalk.iteOmega] <;> (first | rfl | exact ⟨rfl, rfl⟩ | first | exact calls_B (HCN.out _ (((Below.refl _ _).alloc (Nat.le_refl _) _).trans ((Ex.below hx).mono (by simp)))) | exact calls_B (HCK.out _ (((Below.refl _ _).alloc (Nat.le_refl _) _).trans ((Ex.below hx).mono (by simp)))))); (simp only [Act.put, List.setIfInBounds_toArray, List.set_cons_zero, List.set_cons_succ]; refine hK _ ?_; clear hK K)))); refine quietL_nil ?_)
        (refine anyB_one (i := 11) (by kernel_rfl) rfl rfl ?_; intro w2 hb2 K hK; obtain ⟨hc2, hf2⟩ := ifs_of hb2; have hs2 := hb2.size; (try simp at hs2); go_wp2; refine ⟨xs_, ?_⟩)
        (refine anyB_one (i := 12) (by kernel_rfl) rfl rfl ?_; intro w3 hb3 K hK; obtain ⟨hc3, hf3⟩ := ifs_of hb3; have hs3 := hb3.size; (try simp at hs3); go_wp2_with fail; refine (pfirst_any (w2.heap.size + 1) _ 2 2 [q1, q2] _ ((by simpa using Reads.new (size := 1) w2 (([q1, q2]).map (.int .i64)).toArray 34 2 rfl : Reads (w2.alloc (.cells (([q1, q2]).map (.int .i64)).toArray 34)) (w2.heap.size + 1) 1 (some ⟨w2.heap.size, 0, none⟩) 2 (([q1, q2]).map (.int .i64))).below (hb3.mono (by simp))) (by unfold maxLen; decide)).mono ?_; rintro e w3' ⟨rfl, rfl⟩; go_wp2; refine ⟨xs_, ?_⟩)
        obtain ⟨ee, hee⟩ : ∃ ee, firstE [q1, q2] = ee := ⟨_, rfl⟩
        have HO2 := Lib.hid (hO.out.trans hee)
        rw [hee]
        clear hee
        cases hne : (ee != 0) with
        | true =>
          have HNE := Lib.hid (show ee ≠ 0 by simpa using hne)
          (refine anyB_one (i := 13) (by kernel_rfl) rfl rfl ?_; intro w4 hb4 K hK; obtain ⟨hc4, hf4⟩ := ifs_of hb4; have hs4 := hb4.size; (try simp at hs4); go_wp2; refine ⟨xs_, ?_⟩)
          (refine anyB_end (by kernel_rfl) ?_; intro w5 hb5; obtain ⟨hc5, hf5⟩ := ifs_of hb5; have hs5 := hb5.size; (try simp at hs5); simp only [Calm]; go_wp2_with fail)
          go_ret
          exact ⟨by rw [HE.out, Hf.out, Hd.out, chkGo, HO2.out, if_neg HNE.out]; rfl, bl_⟩
        | false =>
          have HNE := Lib.hid (show ee = 0 by simpa using hne)
          (refine anyB_one (i := 13) (by kernel_rfl) rfl rfl ?_; intro w4 hb4 K hK; obtain ⟨hc4, hf4⟩ := ifs_of hb4; have hs4 := hb4.size; (try simp at hs4); go_wp2; refine ⟨xs_, ?_⟩)
          (refine anyB_end (by kernel_rfl) ?_; intro w5 hb5; obtain ⟨hc5, hf5⟩ := ifs_of hb5; have hs5 := hb5.size; (try simp at hs5); simp only [Calm]; go_wp2_with fail)
          go_roundw
          case rel => exact ⟨k + 1, by omega, by go_num, by rw [Hf.out, Hd.out, chkGo, HO2.out, if_pos HNE.out, Ht.out], bl_⟩
          case measure => simp [intOf]; omega
      · obtain rfl : k = n := by omega
        go_wp2
        go_ret
        exact ⟨by rw [HE.out, Hf.out, List.drop_eq_nil_of_le (by simp [HL.out])]; rfl, bl_⟩
set_option maxRecDepth 100000 in
set_option maxHeartbeats 2000000 in
theorem checkAllSw_any (g : Nat) (bs cap : Array Value) (B : Nat) (A : Option Addr) (n c : Nat) (l : List Sw) (ck : Sw → Int) (w : World) (hr : Reads w B 5 A n (sws l)) (hB : B ≤ w.heap.size) (hn : n ≤ 400) (hs : ∀ x ∈ l, x.n.size ≤ maxLen) (eg : Enters Tryz.prog g) (hp : PredC Tryz.prog g bs cap (fun x => .agg #[.string x.n, .string x.k, .int .i64 x.a, .int .i64 x.b, .bool x.c]) l ck w) :
    Calls Tryz.prog 111 #[.slice A n c, .int .i64 8, .func (.func 112) #[] #[], .func (.func g) bs cap] w fun e w' => e = .returned (.int .i64 (chkAll (l.map fun x => (x.n, ck x)))) ∧ Below w.heap.size w w' := by
  obtain ⟨hl, ha⟩ := sw_at hr
  have HL := Lib.hid hl
  have HA := Lib.hid ha
  have HR := Lib.hid hr
  have HP := Lib.hid hp
  have HS := Lib.hid hs
  unfold Enters at eg
  clear hl ha hr hp hs
  by_cases hn8 : 8 < n
  · have e : chkAll (l.map fun x => (x.n, ck x)) = 5 := by rw [chkAll, List.length_map, if_pos (by rw [HL.out]; exact hn8)]
    have e8 : decide ((8 : Int) < (n : Int)) = true := by simp; omega
    rw [e]
    clear e
    go_enter Tryz.func111, Tryz.ntmps111
    go_wp2
    go_ret
    exact ⟨rfl, bl_⟩
  · have e : chkAll (l.map fun x => (x.n, ck x)) = chkGo [] (l.map fun x => (x.n, ck x)) := by rw [chkAll, List.length_map, if_neg (by rw [HL.out]; exact hn8)]
    have e8 : decide ((8 : Int) < (n : Int)) = false := by simp; omega
    have HE := Lib.hid e
    clear e
    go_enter Tryz.func111, Tryz.ntmps111
    go_wp2_with fail
    refine (mapSw_any B A n c l w HR.out hB (by omega)).mono ?_
    rintro e w1 ⟨NA, ncap, rfl, hnr, hnc, hnm, hb1⟩
    have HN := Lib.hid hnr
    have hs1 := hb1.size
    unfold maxLen at hnm
    clear hnr
    go_wp2_with fail
    go_loopw [22] (fun i wr => ∃ k : Nat, k ≤ n ∧ i = .int .i64 k ∧ chkGo [] (l.map fun x => (x.n, ck x)) = chkGo ((l.map Sw.n).take k) ((l.map fun x => (x.n, ck x)).drop k) ∧ Below w1.heap.size w1 wr) (fun i _ => n - (intOf i).toNat)
    case atStart => exact ⟨0, by omega, rfl, rfl, bl_⟩
    case round =>
      obtain ⟨k, hk, rfl, hf, hb⟩ := hrel
      have Hf := Lib.hid hf
      clear hf
      have hsr := hb.size
      by_cases hlt : k < n
      · have hkl : k < l.length := by rw [HL.out]; exact hlt
        have hbw : Below w.heap.size w wr := hb1.trans (hb.mono hs1)
        obtain ⟨b, o, eA, hbb, hz⟩ := HA.out k hkl
        have kb : ∀ i, wr.cell? ⟨b, i, none⟩ = w.cell? ⟨b, i, none⟩ := fun i => hbw.cell (p := ⟨b, i, none⟩) (by simp; omega)
        simp only [← kb] at hz
        clear kb
        subst eA
        have HNr := Lib.hid (HN.out.below (B := w1.heap.size) hb)
        have hnl : (l.map Sw.n).length = n := by rw [List.length_map, HL.out]
        obtain ⟨nb, no, rfl, hnb, hncell⟩ := HNr.out.2 (by rw [hnl]; omega)
        have hz' : wr.cell? ⟨nb, no + k, none⟩ = some (.string l[k].n) := hncell k _ (by simp [hkl])
        have Hd : Hid ((l.map fun x => (x.n, ck x)).drop k = (l[k].n, ck l[k]) :: (l.map fun x => (x.n, ck x)).drop (k + 1)) := by
          show _ = _
          rw [List.drop_eq_getElem_cons (by simpa using hkl)]; simp
        have Ht : Hid ((l.map Sw.n).take (k + 1) = (l.map Sw.n).take k ++ [l[k].n]) := by
          show _ = _
          rw [List.take_succ_eq_append_getElem (by simpa using hkl)]; simp
        have hKk : Reads wr w1.heap.size 1 (some ⟨nb, no, none⟩) k (((l.map Sw.n).take k).map .string) := by
          refine ⟨by simp; omega, fun _ => ⟨nb, no, rfl, hnb, fun j u hu => ?_⟩⟩
          refine hncell j u ?_
          have hj : j < k := by have := (List.getElem?_eq_some_iff.1 hu).1; simp at this; omega
          rw [List.map_take, List.getElem?_take_of_lt hj] at hu
          exact hu
        have hCK := HP.out wr hbw l[k] (List.getElem_mem hkl)
        have hCKW := fun W (hW : Below w.heap.size w W) => HP.out W hW l[k] (List.getElem_mem hkl)
        have hsz := HS.out l[k] (List.getElem_mem hkl)
        have HCN := Lib.hid (fun W (hW : Below wr.heap.size wr W) => checkName_any l[k].n w1.heap.size (some ⟨nb, no, none⟩) k ncap ((l.map Sw.n).take k) W hsz (hKk.below (hW.mono hsr)) (by have := hW.size; omega) (by unfold maxLen; omega))
        have HCK := Lib.hid (fun W (hW : Below wr.heap.size wr W) => hCKW W (hbw.trans (hW.mono (by omega))))
        have hO : Hid (chkOne ((l.map Sw.n).take k) l[k].n (ck l[k]) = firstE [firstE [nameE l[k].n, whenE (hasW ((l.map Sw.n).take k) l[k].n) 9], ck l[k]]) := rfl
        have hkc : k ≤ ncap := by omega
        have hkc2 : ¬ ncap < k := by omega
        clear hKk hCK hCKW hsz hncell hnl
        generalize hq1 : firstE [nameE l[k].n, whenE (hasW ((l.map Sw.n).take k) l[k].n) 9] = q1 at *
        generalize hq2 : ck l[k] = q2 at *
        clear hq1 hq2
        generalize l[k] = x at *
        (obtain ⟨z0, z1, z2, z3, z4⟩ := hz; obtain ⟨xn, xk, xa, xb, xc⟩ := x; dsimp only at z0 z1 z2 z3 z4 hz' Hd Ht HCN HCK hO)
        go_wp2_with fail
        (refine wp_region_calm [] [0, 1, 2, 3, 4, 5, 6, 7, 8, 9, 10] 3 (by kernel_rfl) rfl (by kernel_rfl) (by kernel_rfl) (by kernel_rfl) ?_; simp only [pickB, List.filterMap_cons, List.filterMap_nil, List.getElem?_toArray, List.getElem?_cons_zero, List.getElem?_cons_succ]; (repeat ((with_reducible refine quietL_plain rfl (fun K hK => ?_)); (apply Exists.intro; refine ⟨fun wx hx => ?_, ?_⟩; (· (have hcx := ifs_ex hx); simp [go_sem, *, ↓IntWalk.iteOmega] <;> (first | rfl | exact ⟨rfl, rfl⟩ | first | exact calls_B (HCN.out _ (((Below.refl _ _).alloc (Nat.le_refl _) _).trans ((Ex.below hx).mono (by simp)))) | exact calls_B (HCK.out _ (((Below.refl _ _).alloc (Nat.le_refl _) _).trans ((Ex.below hx).mono (by simp)))))); (simp only [Act.put, List.setIfInBounds_toArray, List.set_cons_zero, List.set_cons_succ]; refine hK _ ?_; clear hK K)))); refine quietL_nil ?_)
        (refine anyB_one (i := 11) (by kernel_rfl) rfl rfl ?_; intro w2 hb2 K hK; obtain ⟨hc2, hf2⟩ := ifs_of hb2; have hs2 := hb2.size; (try simp at hs2); go_wp2; refine ⟨xs_, ?_⟩)
        (refine anyB_one (i := 12) (by kernel_rfl) rfl rfl ?_; intro w3 hb3 K hK; obtain ⟨hc3, hf3⟩ := ifs_of hb3; have hs3 := hb3.size; (try simp at hs3); go_wp2_with fail; refine (pfirst_any (w2.heap.size + 1) _ 2 2 [q1, q2] _ ((by simpa using Reads.new (size := 1) w2 (([q1, q2]).map (.int .i64)).toArray 34 2 rfl : Reads (w2.alloc (.cells (([q1, q2]).map (.int .i64)).toArray 34)) (w2.heap.size + 1) 1 (some ⟨w2.heap.size, 0, none⟩) 2 (([q1, q2]).map (.int .i64))).below (hb3.mono (by simp))) (by unfold maxLen; decide)).mono ?_; rintro e w3' ⟨rfl, rfl⟩; go_wp2; refine ⟨xs_, ?_⟩)
        obtain ⟨ee, hee⟩ : ∃ ee, firstE [q1, q2] = ee := ⟨_, rfl⟩
        have HO2 := Lib.hid (hO.out.trans hee)
        rw [hee]
        clear hee
        cases hne : (ee != 0) with
        | true =>
          have HNE := Lib.hid (show ee ≠ 0 by simpa using hne)
          (refine anyB_one (i := 13) (by kernel_rfl) rfl rfl ?_; intro w4 hb4 K hK; obtain ⟨hc4, hf4⟩ := ifs_of hb4; have hs4 := hb4.size; (try simp at hs4); go_wp2; refine ⟨xs_, ?_⟩)
          (refine anyB_end (by kernel_rfl) ?_; intro w5 hb5; obtain ⟨hc5, hf5⟩ := ifs_of hb5; have hs5 := hb5.size; (try simp at hs5); simp only [Calm]; go_wp2_with fail)
          go_ret
          exact ⟨by rw [HE.out, Hf.out, Hd.out, chkGo, HO2.out, if_neg HNE.out]; rfl, bl_⟩
        | false =>
          have HNE := Lib.hid (show ee = 0 by simpa using hne)
          (refine anyB_one (i := 13) (by kernel_rfl) rfl rfl ?_; intro w4 hb4 K hK; obtain ⟨hc4, hf4⟩ := ifs_of hb4; have hs4 := hb4.size; (try simp at hs4); go_wp2; refine ⟨xs_, ?_⟩)
          (refine anyB_end (by kernel_rfl) ?_; intro w5 hb5; obtain ⟨hc5, hf5⟩ := ifs_of hb5; have hs5 := hb5.size; (try simp at hs5); simp only [Calm]; go_wp2_with fail)
          go_roundw
          case rel => exact ⟨k + 1, by omega, by go_num, by rw [Hf.out, Hd.out, chkGo, HO2.out, if_pos HNE.out, Ht.out], bl_⟩
          case measure => simp [intOf]; omega
      · obtain rfl : k = n := by omega
        go_wp2
        go_ret
        exact ⟨by rw [HE.out, Hf.out, List.drop_eq_nil_of_le (by simp [HL.out])]; rfl, bl_⟩
set_option maxRecDepth 100000 in
set_option maxHeartbeats 2000000 in
theorem checkAllPm_any (g : Nat) (bs cap : Array Value) (B : Nat) (A : Option Addr) (n c : Nat) (l : List Pm) (ck : Pm → Int) (w : World) (hr : Reads w B 2 A n (pms l)) (hB : B ≤ w.heap.size) (hn : n ≤ 400) (hs : ∀ x ∈ l, x.n.size ≤ maxLen) (eg : Enters Tryz.prog g) (hp : PredC Tryz.prog g bs cap (fun x => .agg #[.string x.n, .int .i64 x.s]) l ck w) :
    Calls Tryz.prog 116 #[.slice A n c, .int .i64 8, .func (.func 117) #[] #[], .func (.func g) bs cap] w fun e w' => e = .returned (.int .i64 (chkAll (l.map fun x => (x.n, ck x)))) ∧ Below w.heap.size w w' := by
  obtain ⟨hl, ha⟩ := pm_at hr
  have HL := Lib.hid hl
  have HA := Lib.hid ha
  have HR := Lib.hid hr
  have HP := Lib.hid hp
  have HS := Lib.hid hs
  unfold Enters at eg
  clear hl ha hr hp hs
  by_cases hn8 : 8 < n
  · have e : chkAll (l.map fun x => (x.n, ck x)) = 5 := by rw [chkAll, List.length_map, if_pos (by rw [HL.out]; exact hn8)]
    have e8 : decide ((8 : Int) < (n : Int)) = true := by simp; omega
    rw [e]
    clear e
    go_enter Tryz.func116, Tryz.ntmps116
    go_wp2
    go_ret
    exact ⟨rfl, bl_⟩
  · have e : chkAll (l.map fun x => (x.n, ck x)) = chkGo [] (l.map fun x => (x.n, ck x)) := by rw [chkAll, List.length_map, if_neg (by rw [HL.out]; exact hn8)]
    have e8 : decide ((8 : Int) < (n : Int)) = false := by simp; omega
    have HE := Lib.hid e
    clear e
    go_enter Tryz.func116, Tryz.ntmps116
    go_wp2_with fail
    refine (mapPm_any B A n c l w HR.out hB (by omega)).mono ?_
    rintro e w1 ⟨NA, ncap, rfl, hnr, hnc, hnm, hb1⟩
    have HN := Lib.hid hnr
    have hs1 := hb1.size
    unfold maxLen at hnm
    clear hnr
    go_wp2_with fail
    go_loopw [22] (fun i wr => ∃ k : Nat, k ≤ n ∧ i = .int .i64 k ∧ chkGo [] (l.map fun x => (x.n, ck x)) = chkGo ((l.map Pm.n).take k) ((l.map fun x => (x.n, ck x)).drop k) ∧ Below w1.heap.size w1 wr) (fun i _ => n - (intOf i).toNat)
    case atStart => exact ⟨0, by omega, rfl, rfl, bl_⟩
    case round =>
      obtain ⟨k, hk, rfl, hf, hb⟩ := hrel
      have Hf := Lib.hid hf
      clear hf
      have hsr := hb.size
      by_cases hlt : k < n
      · have hkl : k < l.length := by rw [HL.out]; exact hlt
        have hbw : Below w.heap.size w wr := hb1.trans (hb.mono hs1)
        obtain ⟨b, o, eA, hbb, hz⟩ := HA.out k hkl
        have kb : ∀ i, wr.cell? ⟨b, i, none⟩ = w.cell? ⟨b, i, none⟩ := fun i => hbw.cell (p := ⟨b, i, none⟩) (by simp; omega)
        simp only [← kb] at hz
        clear kb
        subst eA
        have HNr := Lib.hid (HN.out.below (B := w1.heap.size) hb)
        have hnl : (l.map Pm.n).length = n := by rw [List.length_map, HL.out]
        obtain ⟨nb, no, rfl, hnb, hncell⟩ := HNr.out.2 (by rw [hnl]; omega)
        have hz' : wr.cell? ⟨nb, no + k, none⟩ = some (.string l[k].n) := hncell k _ (by simp [hkl])
        have Hd : Hid ((l.map fun x => (x.n, ck x)).drop k = (l[k].n, ck l[k]) :: (l.map fun x => (x.n, ck x)).drop (k + 1)) := by
          show _ = _
          rw [List.drop_eq_getElem_cons (by simpa using hkl)]; simp
        have Ht : Hid ((l.map Pm.n).take (k + 1) = (l.map Pm.n).take k ++ [l[k].n]) := by
          show _ = _
          rw [List.take_succ_eq_append_getElem (by simpa using hkl)]; simp
        have hKk : Reads wr w1.heap.size 1 (some ⟨nb, no, none⟩) k (((l.map Pm.n).take k).map .string) := by
          refine ⟨by simp; omega, fun _ => ⟨nb, no, rfl, hnb, fun j u hu => ?_⟩⟩
          refine hncell j u ?_
          have hj : j < k := by have := (List.getElem?_eq_some_iff.1 hu).1; simp at this; omega
          rw [List.map_take, List.getElem?_take_of_lt hj] at hu
          exact hu
        have hCK := HP.out wr hbw l[k] (List.getElem_mem hkl)
        have hCKW := fun W (hW : Below w.heap.size w W) => HP.out W hW l[k] (List.getElem_mem hkl)
        have hsz := HS.out l[k] (List.getElem_mem hkl)
        have HCN := Lib.hid (fun W (hW : Below wr.heap.size wr W) => checkName_any l[k].n w1.heap.size (some ⟨nb, no, none⟩) k ncap ((l.map Pm.n).take k) W hsz (hKk.below (hW.mono hsr)) (by have := hW.size; omega) (by unfold maxLen; omega))
        have HCK := Lib.hid (fun W (hW : Below wr.heap.size wr W) => hCKW W (hbw.trans (hW.mono (by omega))))
        have hO : Hid (chkOne ((l.map Pm.n).take k) l[k].n (ck l[k]) = firstE [firstE [nameE l[k].n, whenE (hasW ((l.map Pm.n).take k) l[k].n) 9], ck l[k]]) := rfl
        have hkc : k ≤ ncap := by omega
        have hkc2 : ¬ ncap < k := by omega
        clear hKk hCK hCKW hsz hncell hnl
        generalize hq1 : firstE [nameE l[k].n, whenE (hasW ((l.map Pm.n).take k) l[k].n) 9] = q1 at *
        generalize hq2 : ck l[k] = q2 at *
        clear hq1 hq2
        generalize l[k] = x at *
        (obtain ⟨z0, z1⟩ := hz; obtain ⟨xn, xs⟩ := x; dsimp only at z0 z1 hz' Hd Ht HCN HCK hO)
        go_wp2_with fail
        (refine wp_region_calm [] [0, 1, 2, 3, 4, 5, 6, 7, 8, 9, 10] 3 (by kernel_rfl) rfl (by kernel_rfl) (by kernel_rfl) (by kernel_rfl) ?_; simp only [pickB, List.filterMap_cons, List.filterMap_nil, List.getElem?_toArray, List.getElem?_cons_zero, List.getElem?_cons_succ]; (repeat ((with_reducible refine quietL_plain rfl (fun K hK => ?_)); (apply Exists.intro; refine ⟨fun wx hx => ?_, ?_⟩; (· (have hcx := ifs_ex hx); simp [go_sem, *, ↓IntWalk.iteOmega] <;> (first | rfl | exact ⟨rfl, rfl⟩ | first | exact calls_B (HCN.out _ (((Below.refl _ _).alloc (Nat.le_refl _) _).trans ((Ex.below hx).mono (by simp)))) | exact calls_B (HCK.out _ (((Below.refl _ _).alloc (Nat.le_refl _) _).trans ((Ex.below hx).mono (by simp)))))); (simp only [Act.put, List.setIfInBounds_toArray, List.set_cons_zero, List.set_cons_succ]; refine hK _ ?_; clear hK K)))); refine quietL_nil ?_)
        (refine anyB_one (i := 11) (by kernel_rfl) rfl rfl ?_; intro w2 hb2 K hK; obtain ⟨hc2, hf2⟩ := ifs_of hb2; have hs2 := hb2.size; (try simp at hs2); go_wp2; refine ⟨xs_, ?_⟩)
        (refine anyB_one (i := 12) (by kernel_rfl) rfl rfl ?_; intro w3 hb3 K hK; obtain ⟨hc3, hf3⟩ := ifs_of hb3; have hs3 := hb3.size; (try simp at hs3); go_wp2_with fail; refine (pfirst_any (w2.heap.size + 1) _ 2 2 [q1, q2] _ ((by simpa using Reads.new (size := 1) w2 (([q1, q2]).map (.int .i64)).toArray 34 2 rfl : Reads (w2.alloc (.cells (([q1, q2]).map (.int .i64)).toArray 34)) (w2.heap.size + 1) 1 (some ⟨w2.heap.size, 0, none⟩) 2 (([q1, q2]).map (.int .i64))).below (hb3.mono (by simp))) (by unfold maxLen; decide)).mono ?_; rintro e w3' ⟨rfl, rfl⟩; go_wp2; refine ⟨xs_, ?_⟩)
        obtain ⟨ee, hee⟩ : ∃ ee, firstE [q1, q2] = ee := ⟨_, rfl⟩
        have HO2 := Lib.hid (hO.out.trans hee)
        rw [hee]
        clear hee
        cases hne : (ee != 0) with
        | true =>
          have HNE := Lib.hid (show ee ≠ 0 by simpa using hne)
          (refine anyB_one (i := 13) (by kernel_rfl) rfl rfl ?_; intro w4 hb4 K hK; obtain ⟨hc4, hf4⟩ := ifs_of hb4; have hs4 := hb4.size; (try simp at hs4); go_wp2; refine ⟨xs_, ?_⟩)
          (refine anyB_end (by kernel_rfl) ?_; intro w5 hb5; obtain ⟨hc5, hf5⟩ := ifs_of hb5; have hs5 := hb5.size; (try simp at hs5); simp only [Calm]; go_wp2_with fail)
          go_ret
          exact ⟨by rw [HE.out, Hf.out, Hd.out, chkGo, HO2.out, if_neg HNE.out]; rfl, bl_⟩
        | false =>
          have HNE := Lib.hid (show ee = 0 by simpa using hne)
          (refine anyB_one (i := 13) (by kernel_rfl) rfl rfl ?_; intro w4 hb4 K hK; obtain ⟨hc4, hf4⟩ := ifs_of hb4; have hs4 := hb4.size; (try simp at hs4); go_wp2; refine ⟨xs_, ?_⟩)
          (refine anyB_end (by kernel_rfl) ?_; intro w5 hb5; obtain ⟨hc5, hf5⟩ := ifs_of hb5; have hs5 := hb5.size; (try simp at hs5); simp only [Calm]; go_wp2_with fail)
          go_roundw
          case rel => exact ⟨k + 1, by omega, by go_num, by rw [Hf.out, Hd.out, chkGo, HO2.out, if_pos HNE.out, Ht.out], bl_⟩
          case measure => simp [intOf]; omega
      · obtain rfl : k = n := by omega
        go_wp2
        go_ret
        exact ⟨by rw [HE.out, Hf.out, List.drop_eq_nil_of_le (by simp [HL.out])]; rfl, bl_⟩
end Go.Proofs.YtphlojgmfkgeiaaGreatDoor
