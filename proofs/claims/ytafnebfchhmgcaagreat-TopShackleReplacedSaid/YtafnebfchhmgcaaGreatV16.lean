/- Plans of replacement: extend visits all plans that begin with some indices. -/
import Derived.Test.YtafnebfchhmgcaaGreatV14
import Derived.Test.YtafnebfchhmgcaaGreatV15
import Derived.Test.YtafnebfchhmgcaaGreatQj
import Derived.Deep.DeepCutAuto
import Derived.Deep.CutBlock
namespace Go.Proofs.YtafnebfchhmgcaaGreat
open Go Go.RowKit Go.Sort Go.Shelf
set_option linter.unusedSimpArgs false
set_option linter.unusedVariables false
attribute [local go_sem] cell_if frozen_if grow_cell
def CloneRes1 (w : World) (t n : Nat) (xs : List Value) (e : Ending) (w' : World) : Prop := ∃ v, e = .returned v ∧ w'.ownsRow w.heap.size t 1 v n xs ∧ Below w.heap.size w w'
set_option maxRecDepth 100000 in
theorem CloneI_any (B : Nat) (A : Option Addr) (n c : Nat) (xs : List Value) (w : World) (hr : Reads w B 1 A n xs) (hB : B ≤ w.heap.size) (h1 : ∀ u ∈ xs, u.oneCell' = true) (hn : n ≤ 1000) :
    Calls Tryz.prog 174 #[.slice A n c] w (CloneRes1 w 3 n xs) := by
  have q22 : ∀ (w : World) (a : Option Addr) (n c n' c' : Nat), (binOp .eql 73 (.slice a n c) (.slice none n' c')).run Tryz.prog w = .ok (.bool a.isNone) w := fun w a n c n' c' => Lib.run_eql_slice_nil w _ _ a n c n' c' Tryz.underlying73
  cases A with
  | none =>
    obtain rfl : n = 0 := by
      rcases Nat.eq_zero_or_pos n with h | h
      · exact h
      · obtain ⟨b, o, e, _⟩ := hr.2 h
        cases e
    obtain rfl : xs = [] := List.eq_nil_of_length_eq_zero (by rw [hr.1])
    clear hr h1
    go_enter Tryz.func174, Tryz.ntmps174
    go_wp2
    go_ret
    exact ⟨_, rfl, World.ownsRow_nil _ _ _ _, bl_⟩
  | some ad =>
    have hl := hr.1
    have hnews : Hid (∀ j u, xs[j]? = some u → (w.alloc (.cells #[] 3)).cell? (ad.add j) = some u) := fun j u hu => by
      have hj := (List.getElem?_eq_some_iff.1 hu).1
      obtain ⟨b, o, e, hb, hc⟩ := (hr.alloc hB (.cells #[] 3)).2 (by omega)
      cases e
      rw [Addr.add_lit]
      exact hc j u hu
    have H1 := Lib.hid h1
    have HL := Lib.hid hl
    clear hr h1 hl
    obtain ⟨ht, ⟨i, z, g1, g2, g3, g4, g5⟩, hp⟩ := elemInt
    have G1 := Lib.hid g1
    have G2 := Lib.hid g2
    have G3 := Lib.hid g3
    have G4 := Lib.hid g4
    have G5 := Lib.hid g5
    clear g1 g2 g3 g4 g5
    go_enter Tryz.func174, Tryz.ntmps174
    go_wp2_with (at_builtin; refine wpList_append_own (w.alloc (.cells #[] 3)) rfl (.tmp 5) (.tmp 6) 73 rfl w.heap.size 3 i z 1 8 ht G1.out G2.out G3.out G4.out G5.out hp _ 0 [] rfl (Own.new w w.heap.size 3 1 0 #[] (Nat.le_refl _) rfl (by decide)) ad n c xs rfl HL.out hnews.out H1.out (by unfold maxLen; omega) (by omega) (by simp) ?_)
    intro v' w' hO hg hnil
    have HO := Lib.hid hO
    have hb : Below w.heap.size w w' := ((Below.refl _ w).alloc (Nat.le_refl _) _).grown hg (by simp) (fun k hk => by simp [Value.ownBlock] at hk; omega)
    clear hO hg hnil
    obtain ⟨A', cap', rfl, _⟩ := own_form HO.out
    go_wp2
    go_ret
    exact ⟨_, rfl, HO.out, hb⟩
/-- The first indices of a plan. -/
structure PaOk (ms : List Vm) (os : List Ot) (ks : List Int) : Prop where
  le : ks.length ≤ ms.length
  rng : ∀ k ∈ ks, 0 ≤ k ∧ k < (os.length : Int)
  perm : ∀ i, (h : i < ks.length) → (hm : i < ms.length) → ∀ o, os[(ks[i]).toNat]? = some o → permB o ms[i] = true
theorem PaOk.nil (ms : List Vm) (os : List Ot) : PaOk ms os [] := ⟨Nat.zero_le _, fun k hk => by simp at hk, fun i h => by simp at h⟩
theorem PaOk.snoc {ms : List Vm} {os : List Ot} {ks : List Int} (h : PaOk ms os ks) (hl : ks.length < ms.length) {k : Nat} (hk : k < os.length) (hp : permB os[k] ms[ks.length] = true) : PaOk ms os (ks ++ [(k : Int)]) := by
  refine ⟨by simp; omega, fun j hj => ?_, fun i hi hm o ho => ?_⟩
  · rcases List.mem_append.1 hj with hj | hj
    · exact h.rng j hj
    · simp at hj
      subst hj
      omega
  · by_cases hlt : i < ks.length
    · rw [List.getElem_append_left hlt] at ho
      exact h.perm i hlt hm o ho
    · have e : i = ks.length := by simp at hi; omega
      subst e
      rw [List.getElem_append_right (Nat.le_refl _)] at ho
      simp at ho
      rw [List.getElem?_eq_getElem hk] at ho
      cases ho
      exact hp
/-- A plan as it is handed out: a row of its own. -/
structure PlA (n1 : Nat) (ms : List Vm) (os : List Ot) (x : Value × List Int) (W : World) : Prop where
  row : W.ownsRow n1 3 1 x.1 x.2.length (x.2.map (.int .i64))
  ok : PaOk ms os x.2
  len : x.2.length = ms.length
  fit : fitB os ms x.2 = true
theorem yield_wide {n m : Nat} {P : Program} {l : Nat} {args : Array Value} {W : World} {R : Ending → World → Prop} (h : YieldAt Fence.wide n P l args W R) : YieldAt Fence.wide m P l args W R := by
  obtain ⟨fn, tmps, assign, body, h1, h2, h3⟩ := h
  exact ⟨fn, tmps, assign, body, h1, h2, fun c cs _ => h3 c cs (room_wide _)⟩
section
variable {P : Program} {md : Region.Mode} {ops : Array Oper} {Q : Exit → Act → World → Prop} {Z : List Nat} {w0 : World}
/-- Two operations with guards that are wanted are ready: each may come first. -/
theorem anyB_two_want {fuel i j : Nat} {listed : Array Bool} {a : Act} {w1 : World} {o o' : Oper} (hr : Region.ready md ops listed = [i, j]) (ho : ops[i]? = some o) (hg : Region.wanted o (yielded ops a.tmps) = true) (ho' : ops[j]? = some o') (hg' : Region.wanted o' (yielded ops a.tmps) = true)
    (h : ∀ w, Below w1.heap.size w1 w → ∀ K : Act → World → Prop, (∀ a' w', (Ex Z w0 w' ∧ anyB P md ops Q Z w0 fuel (listed.setIfInBounds i true) a' w') → K a' w') → o.wp P a w K Q)
    (h' : ∀ w, Below w1.heap.size w1 w → ∀ K : Act → World → Prop, (∀ a' w', (Ex Z w0 w' ∧ anyB P md ops Q Z w0 fuel (listed.setIfInBounds j true) a' w') → K a' w') → o'.wp P a w K Q) : anyB P md ops Q Z w0 (fuel + 1) listed a w1 := by
  refine ⟨fun h0 => (by rw [hr] at h0; cases h0), fun k hk w hw => ?_⟩
  rw [hr] at hk
  unfold wpOp
  rcases List.mem_cons.1 hk with rfl | hk
  · simp only [ho, hg, if_true]
    exact .inl (h w hw _ (fun _ _ hh => hh))
  · obtain rfl := List.mem_singleton.1 hk
    simp only [ho', hg', if_true]
    exact .inl (h' w hw _ (fun _ _ hh => hh))
end
theorem own_ex {Z : List Nat} {W W' : World} {base e size n : Nat} {v : Value} {xs : List Value} (h : W.ownsRow base e size v n xs) (he : Ex Z W W') (hZ : ∀ k ∈ Z, k < base) : W'.ownsRow base e size v n xs := by
  rcases h.2 with ⟨rfl, hn⟩ | ⟨g, cap, cur, rfl, hgw, hg, r⟩
  · exact ⟨h.1, .inl ⟨rfl, hn⟩⟩
  · exact ⟨h.1, .inr ⟨g, cap, cur, rfl, hgw, (he.block g (show Blk W g e cur from hg).lt (fun hm => by have := hZ g hm; omega)).trans hg, r⟩⟩
theorem own_reads {W : World} {base e size n c : Nat} {A : Option Addr} {xs : List Value} (h : W.ownsRow base e size (.slice A n c) n xs) : Reads W W.heap.size size A n xs := by
  obtain ⟨A', c', e', _, _, hr⟩ := own_form h
  cases e'
  exact hr
/-- What extend does: it hands out plans until one of them is the last. -/
def ExtRes (Xs : List Nat) (J Jx : List (Value × List Int) → World → Prop) (pre : List (Value × List Int)) (last : Bool) (W : World) (e : Ending) (W' : World) : Prop :=
  Ex Xs W W' ∧ ((e = .returned (.bool true) ∧ ∃ xs, (last = true → xs ≠ []) ∧ J (pre ++ xs) W') ∨ (e = .returned (.bool false) ∧ ∃ xs, Jx (pre ++ xs) W'))
set_option maxRecDepth 100000 in
set_option maxHeartbeats 8000000 in
theorem extend_any (n₀ n1 l : Nat) (Xs : List Nat) (Am Ao : Option Addr) (nm cm no co : Nat) (ms : List Vm) (os : List Ot) (w0 : World) (hm : Reads w0 n₀ 4 Am nm (vms ms)) (ho : Reads w0 n₀ 3 Ao no (ots os)) (h0 : n₀ ≤ w0.heap.size) (hV : VmsOk ms) (hO : OutOk os) (hX : ∀ k ∈ Xs, n₀ ≤ k ∧ k < n1)
    (J Jx : List (Value × List Int) → World → Prop) (hJ : ∀ s C D, J s C → C.grownBy D none → J s D) (hJx : ∀ s C D, Jx s C → C.grownBy D none → Jx s D)
    (hY : ∀ pre x W1, J pre W1 → PlA n1 ms os x W1 → YieldAt Fence.wide 8 Tryz.prog l #[x.1] W1 fun e W' =>
      (e = .returned (.bool true) ∧ J (pre ++ [x]) W' ∧ Ex Xs W1 W') ∨ (e = .returned (.bool false) ∧ Jx (pre ++ [x]) W' ∧ Ex Xs W1 W')) :
    ∀ (d : Nat) (v : Value) (ks : List Int) (pre : List (Value × List Int)) (W : World), ks.length + d = ms.length → PaOk ms os ks → W.ownsRow n1 3 1 v ks.length (ks.map (.int .i64)) → n1 ≤ W.heap.size → Below n₀ w0 W → J pre W →
      Calls Tryz.prog 149 #[.slice Am nm cm, .slice Ao no co, v, .func (.yield l) #[] #[]] W (ExtRes Xs J Jx pre (decide (d = 0) && fitB os ms ks) W) := by
  have hlm := (vm_at hm).1
  have hlo := (ot_at ho).1
  have HLm := Lib.hid hlm
  have HLo := Lib.hid hlo
  have h8 : nm ≤ 8 := by rw [← hlm]; exact hV.len
  have h6 : no ≤ 6 := by rw [← hlo]; exact hO.len
  have HMs := Lib.hid hm
  have HOs := Lib.hid ho
  have HV := Lib.hid hV
  have HO := Lib.hid hO
  have HX := Lib.hid hX
  have HJ := Lib.hid hJ
  have HJx := Lib.hid hJx
  have HY := Lib.hid hY
  have HBe : Hid (∀ {U W : World}, Below n₀ w0 U → Ex Xs U W → Below n₀ w0 W) := Lib.hid (fun h1 h2 => h1.trans (h2.lows (Nat.le_trans h0 h1.size) (fun k hk => (hX k hk).1)))
  clear hm ho hV hO hX hJ hJx hY hlm hlo
  intro d
  induction d using Nat.strongRecOn with
  | _ d ih =>
    intro v ks pre W hd hP hrow hn1 hlow hJp
    have HIh := Lib.hid ih
    obtain ⟨Ap, cp, rfl, hcp, hcp2, hrd⟩ := own_form hrow
    have hms : ks.length ≤ nm := by rw [← HLm.out]; exact hP.le
    have hn0W : n₀ ≤ W.heap.size := Nat.le_trans h0 hlow.size
    have HF := Lib.hid (fits_any n₀ n₀ W.heap.size Am Ao Ap nm cm no co ks.length cp ms os ks W (HMs.out.below hlow) (HOs.out.below hlow) hrd hn0W hn0W (Nat.le_refl _) h8 h6 hms (by rw [← HLo.out]; exact hP.rng) (fun m hm => by have := (HV.out.ok m hm).h; omega) HO.out.h)
    have HP := Lib.hid hP
    have HRow := Lib.hid hrow
    have HLow := Lib.hid hlow
    have HJp := Lib.hid hJp
    have HD : Hid (ks.length + d = nm) := Lib.hid (by rw [hd, HLm.out])
    clear hP hrow hlow hJp hrd hd ih
    go_enter Tryz.func149, Tryz.ntmps149
    go_wp2_with fail
    refine HF.out.mono ?_
    rintro e W1 ⟨rfl, hb1⟩
    have HL1 := Lib.hid (HLow.out.trans (hb1.mono hn0W))
    have HR1 := Lib.hid (own_kept HRow.out hb1)
    have HJ1 := Lib.hid (HJ.out _ _ _ HJp.out (grown_of_below hb1))
    have HE1 := Lib.hid (Ex.of_below (X := Xs) hb1)
    have hs1 := hb1.size
    clear hb1 HF
    cases hf : fitB os ms ks with
    | false =>
      go_wp2_with fail
      go_ret
      exact ⟨HE1.out, .inl ⟨rfl, [], fun h => by simp [hf] at h, by rw [List.append_nil]; exact HJ1.out⟩⟩
    | true =>
      have HFt := Lib.hid hf
      clear hf
      by_cases hd0 : d = 0
      · skip
        have hde : decide (d = 0) = true := by simp [hd0]
        have hln : ks.length = nm := by have := HD.out; omega
        have HA : Hid (PlA n1 ms os (.slice Ap ks.length cp, ks) W1) := Lib.hid ⟨HR1.out, HP.out, by rw [HLm.out]; exact hln, HFt.out⟩
        have HYy := Lib.hid (yield_wide (m := 8) (HY.out pre _ W1 HJ1.out HA.out))
        rw [hln] at HYy
        have HLn := Lib.hid hln
        rw [hln]
        clear hln hd0
        go_upto_region 4 with fail
        obtain ⟨fn, tmps, assign, body, hy, hR1⟩ := HYy.out
        refine (wpIn_wide (n := 9)).1 ?_
        gi_wp2
        refine hR1.mono ?_
        rintro e W3 (⟨rfl, hJ3, hk3⟩ | ⟨rfl, hJx3, hk3⟩)
        · (gi_wp2; (try (refine ⟨fun _ h => (by cases h), ?_⟩; gi_wp2)); (try (refine ⟨fun _ h => (by cases h), ?_⟩; gi_wp2)))
          go_wp2
          go_ret
          exact ⟨HE1.out.then hk3, .inl ⟨rfl, [(.slice Ap nm cp, ks)], fun _ => by simp, hJ3⟩⟩
        · (gi_wp2; (try (refine ⟨fun _ h => (by cases h), ?_⟩; gi_wp2)); (try (refine ⟨fun _ h => (by cases h), ?_⟩; gi_wp2)))
          go_wp2
          go_ret
          exact ⟨HE1.out.then hk3, .inr ⟨rfl, [(.slice Ap nm cp, ks)], hJx3⟩⟩
      · skip
        have hde : decide (d = 0) = false := by simp [hd0]
        have hlt : ks.length < nm := by have := HD.out; omega
        have hlI : ¬ (ks.length : Int) = (nm : Int) := by omega
        have hlJ : ((ks.length : Int) == (nm : Int)) = false := by simpa using hlI
        go_wp2_with fail
        go_loopw [26] (fun s26 wr => ∃ (k : Nat) (xs : List (Value × List Int)), k ≤ no ∧ s26 = .int .i64 (k : Int) ∧ J (pre ++ xs) wr ∧ Ex Xs W1 wr) (fun s26 _ => no - (intOf s26).toNat)
        case atStart => exact ⟨0, [], by omega, rfl, by rw [List.append_nil]; exact HJ1.out, Ex.refl _ _⟩
        case round =>
          obtain ⟨k, xs, hk, rfl, hJr, her⟩ := hrel
          have HJr := Lib.hid hJr
          have HEr := Lib.hid her
          have hsr := her.size
          clear hJr her
          by_cases hlt2 : k < no
          · skip
            have hkI : (k : Int) < (no : Int) := by omega
            have HLr := Lib.hid (HBe.out HL1.out HEr.out)
            have HRr := Lib.hid (own_ex HR1.out HEr.out (fun k hk => (HX.out k hk).2))
            have hko : k < os.length := by rw [HLo.out]; exact hlt2
            have hkm : ks.length < ms.length := by rw [HLm.out]; exact hlt
            obtain ⟨bo, oo, eo, hbo, z0, z1, z2⟩ := (ot_at (HOs.out.below HLr.out)).2 k hko
            obtain ⟨bm, om, em, hbm, y0, y1, y2, y3⟩ := (vm_at (HMs.out.below HLr.out)).2 ks.length hkm
            have HSn := Lib.hid (fun h => HP.out.snoc hkm hko h)
            have hn0r : n₀ ≤ wr.heap.size := Nat.le_trans h0 HLr.out.size
            have hbow : bo < wr.heap.size := by omega
            have hbmw : bm < wr.heap.size := by omega
            have hbmX : bm ∉ Xs := fun hm => by have := (HX.out _ hm).1; omega
            generalize os[k] = y at *
            generalize ms[ks.length] = m at *
            obtain ⟨yt, yh, yc⟩ := y
            obtain ⟨mn, mf, mb, mh⟩ := m
            dsimp only at z0 z1 z2 y0 y1 y2 y3
            subst eo
            go_upto_region 8 with fail
            refine wp_world ?_
            intro Wr hWr
            have hbr : Below wr.heap.size wr Wr := by rw [hWr]; exact bl_
            have HXb := Lib.hid (show Blk Wr wr.heap.size 109 #[.int .i64 yt, .int .i64 yh, .int .i64 yc] from by rw [hWr]; exact Blk.new _ _ _)
            have hsW : Wr.heap.size = wr.heap.size + 1 := by rw [hWr]; simp
            have HJw := Lib.hid (HJ.out _ _ _ HJr.out (grown_of_below hbr))
            have HLw := Lib.hid (HLr.out.trans (hbr.mono hn0r))
            have HRw := Lib.hid (own_kept HRr.out hbr)
            have HEw := Lib.hid (HEr.out.then (Ex.of_below (X := Xs) hbr))
            have kb : ∀ i, Wr.cell? ⟨bm, i, none⟩ = wr.cell? ⟨bm, i, none⟩ := fun i => hbr.cell (p := ⟨bm, i, none⟩) (by simp; omega)
            rw [← kb] at y0 y1 y2 y3
            have hnb : wr.heap.size ∉ Xs := fun hm => by have := (HX.out _ hm).2; omega
            have lb : wr.heap.size < Wr.heap.size := by omega
            have lm : bm < Wr.heap.size := by omega
            have hnW : n1 ≤ Wr.heap.size := by omega
            have hn0W2 : n₀ ≤ Wr.heap.size := by omega
            subst em
            clear hWr hbr kb z0 z1 z2 hbow hbmw HJr HEr HRr HLr
            go_cut [49] (fun s49 wx => Ex Xs W1 wx ∧ ((s49 = .bool false ∧ ∃ xs2, J (pre ++ xs2) wx) ∨ (s49 = .bool true ∧ ∃ xs2, Jx (pre ++ xs2) wx)))
            case first =>
              have cX := HXb.out.cell
              have HPm := fun W => permits_any ⟨yt, yh, yc⟩ ⟨mn, mf, mb, mh⟩ W
              cases hp : permB ⟨yt, yh, yc⟩ ⟨mn, mf, mb, mh⟩ with
              | false =>
                rw [hp] at HPm
                have HPh := Lib.hid HPm
                clear HPm hp HSn
                go_wp2_with fail
                (refine wp_region_calm Xs [0, 1, 2, 3, 4, 5, 6, 7, 8, 9, 10, 11, 12, 13, 14, 15, 16, 17, 18] 0 (by kernel_rfl) rfl (by kernel_rfl) (by kernel_rfl) (by kernel_rfl) ?_; simp only [pickB, List.filterMap_cons, List.filterMap_nil, List.getElem?_toArray, List.getElem?_cons_zero, List.getElem?_cons_succ]; (repeat (first | ((first | (with_reducible refine quietL_plain rfl (fun K hK => ?_)) | (with_reducible refine quietL_want (by with_unfolding_all rfl) (fun K hK => ?_))); (apply Exists.intro; refine ⟨fun wx hx => ?_, ?_⟩; (· (have hcx := ifs_ex hx); simp [go_sem, *, ↓IntWalk.iteOmega] <;> (first | rfl | exact ⟨rfl, rfl⟩ | (with_reducible exact calls_B (HPh.out _)))); (simp only [Act.put, List.setIfInBounds_toArray, List.set_cons_zero, List.set_cons_succ]; refine hK _ ?_; clear hK K))) | ((with_reducible refine quietL_skip (by with_unfolding_all rfl) ?_); simp only [Act.put, List.setIfInBounds_toArray, List.set_cons_zero, List.set_cons_succ]))); refine quietL_nil ?_)
                (refine anyB_end (by kernel_rfl) ?_; intro w9 hb9; have hs9 := hb9.size; (try simp at hs9); simp only [Calm])
                go_wp2_with fail
                go_meet
                case rel => exact ⟨HEw.out.then (Ex.of_below hb9), .inl ⟨rfl, xs, HJ.out _ _ _ HJw.out (grown_of_below hb9)⟩⟩
              | true =>
                rw [hp] at HPm
                have HPh := Lib.hid HPm
                have HS2 := Lib.hid (HSn.out hp)
                have HCl := Lib.hid (fun W' (hW : Below Wr.heap.size Wr W') => CloneI_any Wr.heap.size Ap ks.length cp (ks.map (.int .i64)) W' ((own_reads HRw.out).below hW) hW.size (fun u hu => by obtain ⟨z, _, rfl⟩ := List.mem_map.1 hu; rfl) (by omega))
                have hle8 : ks.length + 1 ≤ 8 := by omega
                clear HPm hp HSn
                go_wp2_with fail
                (refine wp_region_calm Xs [0, 1, 2, 3, 4, 5, 6, 7, 8, 9, 10, 12, 15] 6 (by kernel_rfl) rfl (by kernel_rfl) (by kernel_rfl) (by kernel_rfl) ?_; simp only [pickB, List.filterMap_cons, List.filterMap_nil, List.getElem?_toArray, List.getElem?_cons_zero, List.getElem?_cons_succ]; (repeat (first | ((first | (with_reducible refine quietL_plain rfl (fun K hK => ?_)) | (with_reducible refine quietL_want (by with_unfolding_all rfl) (fun K hK => ?_))); (apply Exists.intro; refine ⟨fun wx hx => ?_, ?_⟩; (· (have hcx := ifs_ex hx); simp [go_sem, *, ↓IntWalk.iteOmega] <;> (first | rfl | exact ⟨rfl, rfl⟩ | (with_reducible exact calls_B (HPh.out _)))); (simp only [Act.put, List.setIfInBounds_toArray, List.set_cons_zero, List.set_cons_succ]; refine hK _ ?_; clear hK K))) | ((with_reducible refine quietL_skip (by with_unfolding_all rfl) ?_); simp only [Act.put, List.setIfInBounds_toArray, List.set_cons_zero, List.set_cons_succ]))); refine quietL_nil ?_)
                refine anyB_two_want (i := 11) (j := 13) (by kernel_rfl) rfl (by kernel_rfl) rfl (by kernel_rfl) ?_ ?_
                · skip
                  intro wa hba K hK
                  have hsa := hba.size
                  go_wp2_with fail
                  refine (HCl.out _ hba).mono ?_
                  rintro e wb ⟨vm, rfl, hvm, hbb⟩
                  have hsb := hbb.size
                  have HVM := Lib.hid hvm
                  obtain ⟨AM, cM, rfl, _⟩ := own_form hvm
                  clear hvm
                  have HWb := Lib.hid (hba.trans (hbb.mono hsa))
                  go_wp2
                  refine ⟨Ex.of_below HWb.out, ?_⟩
                  (try clear hK K)
                  refine anyB_one_want (i := 13) (by kernel_rfl) rfl (by kernel_rfl) ?_
                  intro wc hbc K hK
                  have hsc := hbc.size
                  go_wp2
                  have PV := Lib.hid (World.ownsRow.alloc (own_kept HVM.out hbc) (.cells #[Value.int .i64 (k : Int)] 3))
                  have PB := Lib.hid (Blk.new wc 3 #[Value.int .i64 (k : Int)])
                  have PW : Hid (Below Wr.heap.size Wr (wc.alloc (.cells #[Value.int .i64 (k : Int)] 3))) := Lib.hid ((HWb.out.trans (hbc.mono HWb.out.size)).alloc (by have := HWb.out.size; omega) _)
                  have PA : Hid (Wr.heap.size ≤ wa.heap.size) := Lib.hid (by omega)
                  have PS : Hid (wa.heap.size ≤ (wc.alloc (.cells #[Value.int .i64 (k : Int)] 3)).heap.size) := Lib.hid (by simp; omega)
                  refine ⟨Ex.of_below PW.out, ?_⟩
                  clear hba hbb hbc HWb
                  (try clear hK K)
                  refine anyB_one_want (i := 14) (by kernel_rfl) rfl (by kernel_rfl) ?_
                  intro wd hbd K hK
                  have hsd := hbd.size
                  refine wp_appB 73 3 1 8 elemInt (.tmp 42) (.tmp 44) rfl wa.heap.size (.slice AM ks.length cM) ks.length _ rfl (own_kept PV.out hbd) wc.heap.size 1 #[.int .i64 (k : Int)] rfl (PB.out.kept hbd) rfl ?_ (by decide) ?_ ?_ ?_ ?_
                  · intro u hu; simp at hu; subst hu; rfl
                  · unfold maxLen; omega
                  · omega
                  · have := PS.out; omega
                  intro gm cm' we hOm hgm hatm
                  have hWd : Below Wr.heap.size Wr wd := PW.out.trans (hbd.mono PW.out.size)
                  have hWe : Below Wr.heap.size Wr we := hWd.grown hgm hWd.size (fun r e => by have := ((own_kept PV.out hbd).lt r e).1; have := PA.out; omega)
                  have hse := hWe.size
                  refine hK _ _ ⟨Ex.of_below hWe, ?_⟩
                  clear hatm hgm
                  (try clear hK K)
                  have HOm : Hid (we.ownsRow n1 3 1 (.slice (some ⟨gm, 0, none⟩) (ks ++ [(k : Int)]).length cm') (ks ++ [(k : Int)]).length ((ks ++ [(k : Int)]).map (.int .i64))) := Lib.hid (by
                    have h := row_base hOm (show n1 ≤ wa.heap.size by have := PA.out; omega)
                    rw [List.length_append, List.map_append]
                    exact h)
                  have HWe := Lib.hid hWe
                  clear hOm hWd hWe hbd hsd
                  refine anyB_one_want (i := 16) (by kernel_rfl) rfl (by kernel_rfl) ?_
                  intro wf hbf K hK
                  have HWf := Lib.hid (HWe.out.trans (hbf.mono hse))
                  have HOf := Lib.hid (own_kept HOm.out hbf)
                  have HIc := Lib.hid (HIh.out (d - 1) (by omega) (.slice (some ⟨gm, 0, none⟩) (ks ++ [(k : Int)]).length cm') (ks ++ [(k : Int)]) (pre ++ xs) wf (by rw [List.length_append, HLm.out]; have := HD.out; simp; omega) HS2.out HOf.out (by have := HWf.out.size; omega) (HLw.out.trans (HWf.out.mono hn0W2)) (HJ.out _ _ _ HJw.out (grown_of_below HWf.out)))
                  rw [show (ks ++ [(k : Int)]).length = ks.length + 1 from by simp] at HIc
                  clear hbf HOm HWe
                  go_wp2_with fail
                  refine HIc.out.mono ?_
                  rintro e wg ⟨heg, hrg⟩
                  have HEg : Hid (Ex Xs Wr wg) := Lib.hid ((Ex.of_below (X := Xs) HWf.out).then heg)
                  rcases hrg with ⟨rfl, xs3, _, hJ3⟩ | ⟨rfl, xs3, hJ3⟩
                  · rw [List.append_assoc] at hJ3
                    have HJ3 := Lib.hid hJ3
                    clear hJ3 heg
                    go_wp2
                    refine ⟨HEg.out, ?_⟩
                    (try clear hK K)
                    refine anyB_one_want (i := 17) (by kernel_rfl) rfl (by kernel_rfl) ?_
                    intro w7 hb7 K hK
                    go_wp2
                    refine ⟨HEg.out.then (Ex.of_below hb7), ?_⟩
                    (try clear hK K)
                    refine anyB_one (i := 18) (by kernel_rfl) rfl rfl ?_
                    intro w8 hb8 K hK
                    have hb78 : Below wg.heap.size wg w8 := hb7.trans (hb8.mono hb7.size)
                    go_wp2
                    refine ⟨HEg.out.then (Ex.of_below hb78), ?_⟩
                    (try clear hK K)
                    refine anyB_end (by kernel_rfl) ?_
                    intro w9 hb9'
                    have hb9 : Below wg.heap.size wg w9 := hb78.trans (hb9'.mono hb78.size)
                    simp only [Calm]
                    clear hb7 hb8 hb9' hb78
                    go_wp2_with fail
                    go_meet
                    case rel => exact ⟨HEw.out.then (HEg.out.then (Ex.of_below hb9)), .inl ⟨rfl, xs ++ xs3, HJ.out _ _ _ HJ3.out (grown_of_below hb9)⟩⟩
                  · rw [List.append_assoc] at hJ3
                    have HJ3 := Lib.hid hJ3
                    clear hJ3 heg
                    go_wp2
                    refine ⟨HEg.out, ?_⟩
                    (try clear hK K)
                    refine anyB_one_want (i := 17) (by kernel_rfl) rfl (by kernel_rfl) ?_
                    intro w7 hb7 K hK
                    go_wp2
                    refine ⟨HEg.out.then (Ex.of_below hb7), ?_⟩
                    (try clear hK K)
                    refine anyB_one (i := 18) (by kernel_rfl) rfl rfl ?_
                    intro w8 hb8 K hK
                    have hb78 : Below wg.heap.size wg w8 := hb7.trans (hb8.mono hb7.size)
                    go_wp2
                    refine ⟨HEg.out.then (Ex.of_below hb78), ?_⟩
                    (try clear hK K)
                    refine anyB_end (by kernel_rfl) ?_
                    intro w9 hb9'
                    have hb9 : Below wg.heap.size wg w9 := hb78.trans (hb9'.mono hb78.size)
                    simp only [Calm]
                    clear hb7 hb8 hb9' hb78
                    go_wp2_with fail
                    go_meet
                    case rel => exact ⟨HEw.out.then (HEg.out.then (Ex.of_below hb9)), .inr ⟨rfl, xs ++ xs3, HJx.out _ _ _ HJ3.out (grown_of_below hb9)⟩⟩
                · skip
                  intro wa hba K hK
                  have hsa := hba.size
                  go_wp2
                  have HWa : Hid (Below Wr.heap.size Wr (wa.alloc (.cells #[Value.int .i64 (k : Int)] 3))) := Lib.hid (hba.alloc (by omega) _)
                  refine ⟨Ex.of_below HWa.out, ?_⟩
                  (try clear hK K)
                  refine anyB_one_want (i := 11) (by kernel_rfl) rfl (by kernel_rfl) ?_
                  intro wb hbb K hK
                  have hsb := hbb.size
                  simp at hsb
                  have HWb := Lib.hid (HWa.out.trans (hbb.mono HWa.out.size))
                  go_wp2_with fail
                  refine (HCl.out _ HWb.out).mono ?_
                  rintro e wc ⟨vm, rfl, hvm, hbc⟩
                  have hsc := hbc.size
                  have HVM := Lib.hid hvm
                  obtain ⟨AM, cM, rfl, _⟩ := own_form hvm
                  clear hvm
                  go_wp2
                  have PV := HVM
                  have PB := Lib.hid (((Blk.new wa 3 #[Value.int .i64 (k : Int)]).kept hbb).kept hbc)
                  have PW : Hid (Below Wr.heap.size Wr wc) := Lib.hid (HWb.out.trans (hbc.mono HWb.out.size))
                  have PA : Hid (Wr.heap.size ≤ wb.heap.size) := Lib.hid (by omega)
                  have PS : Hid (wb.heap.size ≤ wc.heap.size) := Lib.hid (by omega)
                  refine ⟨Ex.of_below PW.out, ?_⟩
                  clear hba hbb hbc HWa HWb
                  (try clear hK K)
                  refine anyB_one_want (i := 14) (by kernel_rfl) rfl (by kernel_rfl) ?_
                  intro wd hbd K hK
                  have hsd := hbd.size
                  refine wp_appB 73 3 1 8 elemInt (.tmp 42) (.tmp 44) rfl wb.heap.size (.slice AM ks.length cM) ks.length _ rfl (own_kept PV.out hbd) wa.heap.size 1 #[.int .i64 (k : Int)] rfl (PB.out.kept hbd) rfl ?_ (by decide) ?_ ?_ ?_ ?_
                  · intro u hu; simp at hu; subst hu; rfl
                  · unfold maxLen; omega
                  · omega
                  · have := PS.out; omega
                  intro gm cm' we hOm hgm hatm
                  have hWd : Below Wr.heap.size Wr wd := PW.out.trans (hbd.mono PW.out.size)
                  have hWe : Below Wr.heap.size Wr we := hWd.grown hgm hWd.size (fun r e => by have := ((own_kept PV.out hbd).lt r e).1; have := PA.out; omega)
                  have hse := hWe.size
                  refine hK _ _ ⟨Ex.of_below hWe, ?_⟩
                  clear hatm hgm
                  (try clear hK K)
                  have HOm : Hid (we.ownsRow n1 3 1 (.slice (some ⟨gm, 0, none⟩) (ks ++ [(k : Int)]).length cm') (ks ++ [(k : Int)]).length ((ks ++ [(k : Int)]).map (.int .i64))) := Lib.hid (by
                    have h := row_base hOm (show n1 ≤ wb.heap.size by have := PA.out; omega)
                    rw [List.length_append, List.map_append]
                    exact h)
                  have HWe := Lib.hid hWe
                  clear hOm hWd hWe hbd hsd
                  refine anyB_one_want (i := 16) (by kernel_rfl) rfl (by kernel_rfl) ?_
                  intro wf hbf K hK
                  have HWf := Lib.hid (HWe.out.trans (hbf.mono hse))
                  have HOf := Lib.hid (own_kept HOm.out hbf)
                  have HIc := Lib.hid (HIh.out (d - 1) (by omega) (.slice (some ⟨gm, 0, none⟩) (ks ++ [(k : Int)]).length cm') (ks ++ [(k : Int)]) (pre ++ xs) wf (by rw [List.length_append, HLm.out]; have := HD.out; simp; omega) HS2.out HOf.out (by have := HWf.out.size; omega) (HLw.out.trans (HWf.out.mono hn0W2)) (HJ.out _ _ _ HJw.out (grown_of_below HWf.out)))
                  rw [show (ks ++ [(k : Int)]).length = ks.length + 1 from by simp] at HIc
                  clear hbf HOm HWe
                  go_wp2_with fail
                  refine HIc.out.mono ?_
                  rintro e wg ⟨heg, hrg⟩
                  have HEg : Hid (Ex Xs Wr wg) := Lib.hid ((Ex.of_below (X := Xs) HWf.out).then heg)
                  rcases hrg with ⟨rfl, xs3, _, hJ3⟩ | ⟨rfl, xs3, hJ3⟩
                  · rw [List.append_assoc] at hJ3
                    have HJ3 := Lib.hid hJ3
                    clear hJ3 heg
                    go_wp2
                    refine ⟨HEg.out, ?_⟩
                    (try clear hK K)
                    refine anyB_one_want (i := 17) (by kernel_rfl) rfl (by kernel_rfl) ?_
                    intro w7 hb7 K hK
                    go_wp2
                    refine ⟨HEg.out.then (Ex.of_below hb7), ?_⟩
                    (try clear hK K)
                    refine anyB_one (i := 18) (by kernel_rfl) rfl rfl ?_
                    intro w8 hb8 K hK
                    have hb78 : Below wg.heap.size wg w8 := hb7.trans (hb8.mono hb7.size)
                    go_wp2
                    refine ⟨HEg.out.then (Ex.of_below hb78), ?_⟩
                    (try clear hK K)
                    refine anyB_end (by kernel_rfl) ?_
                    intro w9 hb9'
                    have hb9 : Below wg.heap.size wg w9 := hb78.trans (hb9'.mono hb78.size)
                    simp only [Calm]
                    clear hb7 hb8 hb9' hb78
                    go_wp2_with fail
                    go_meet
                    case rel => exact ⟨HEw.out.then (HEg.out.then (Ex.of_below hb9)), .inl ⟨rfl, xs ++ xs3, HJ.out _ _ _ HJ3.out (grown_of_below hb9)⟩⟩
                  · rw [List.append_assoc] at hJ3
                    have HJ3 := Lib.hid hJ3
                    clear hJ3 heg
                    go_wp2
                    refine ⟨HEg.out, ?_⟩
                    (try clear hK K)
                    refine anyB_one_want (i := 17) (by kernel_rfl) rfl (by kernel_rfl) ?_
                    intro w7 hb7 K hK
                    go_wp2
                    refine ⟨HEg.out.then (Ex.of_below hb7), ?_⟩
                    (try clear hK K)
                    refine anyB_one (i := 18) (by kernel_rfl) rfl rfl ?_
                    intro w8 hb8 K hK
                    have hb78 : Below wg.heap.size wg w8 := hb7.trans (hb8.mono hb7.size)
                    go_wp2
                    refine ⟨HEg.out.then (Ex.of_below hb78), ?_⟩
                    (try clear hK K)
                    refine anyB_end (by kernel_rfl) ?_
                    intro w9 hb9'
                    have hb9 : Below wg.heap.size wg w9 := hb78.trans (hb9'.mono hb78.size)
                    simp only [Calm]
                    clear hb7 hb8 hb9' hb78
                    go_wp2_with fail
                    go_meet
                    case rel => exact ⟨HEw.out.then (HEg.out.then (Ex.of_below hb9)), .inr ⟨rfl, xs ++ xs3, HJx.out _ _ _ HJ3.out (grown_of_below hb9)⟩⟩
            rename World => W5
            obtain ⟨he5, (⟨rfl, xs2, hJ5⟩ | ⟨rfl, xs2, hJ5⟩)⟩ := hcut
            · skip
              have HJ5 := Lib.hid hJ5
              have HE5 := Lib.hid he5
              clear hJ5 he5
              go_wp2_with fail
              go_roundw
              case rel => exact ⟨k + 1, xs2, by omega, by go_num, HJ5.out, HE5.out⟩
              case measure => simp [intOf]; omega
            · skip
              have HJ5 := Lib.hid hJ5
              have HE5 := Lib.hid he5
              clear hJ5 he5
              go_wp2_with fail
              go_ret
              exact ⟨HE1.out.then HE5.out, .inr ⟨rfl, xs2, HJ5.out⟩⟩
          · skip
            obtain rfl : k = no := by omega
            go_wp2_with fail
            go_ret
            exact ⟨HE1.out.then HEr.out, .inl ⟨rfl, xs, fun h => by simp [hd0] at h, HJr.out⟩⟩
end Go.Proofs.YtafnebfchhmgcaaGreat
