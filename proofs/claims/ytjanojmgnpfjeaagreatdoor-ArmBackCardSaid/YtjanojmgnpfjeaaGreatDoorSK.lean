/- The program's read: another line of an arm's text. -/
import Derived.Test.YtjanojmgnpfjeaaGreatDoorSJ
import Derived.Deep.DeepCutAuto
import Derived.Deep.CutBlock
import Derived.WalkMore
namespace Go.Proofs.YtjanojmgnpfjeaaGreatDoor
open Go.RowKit Go.Sort Go.Shelf
set_option linter.unusedSimpArgs false
set_option linter.unusedVariables false
attribute [local go_sem] cell_if frozen_if grow_cell
theorem grown_thenK {W W1 W2 : World} {row : Option Nat} (hg : W.grownBy W1 row) (hb : Below W1.heap.size W1 W2) : W.grownBy W2 row :=
  ⟨hb.os.trans hg.os, hb.tape.trans hg.tape, hb.output.trans hg.output, Nat.le_trans hg.size hb.size, fun k hk hne => (hb.block k (Nat.lt_of_lt_of_le hk hg.size)).trans (hg.block k hk hne)⟩
/-- A slice literal of one element, at one operation. -/
theorem wp_bs {P : Program} {o : Oper} {a : Act} {w : World} {K : Act → World → Prop} {Q : Exit → Act → World → Prop} (t e : TypeId) (x : Operand) (v : Value) (cells : Array Value) (ho : o.op = .buildSlice t 1 #[(0, x)]) (hx : a.eval x = v)
    (hr : (Instr.buildSlice t 1 #[(0, v)]).run P w = .ok (.slice (some ⟨w.heap.size, 0, none⟩) 1 1) (w.alloc (.cells cells e))) (h : K (a.put o.dst (.slice (some ⟨w.heap.size, 0, none⟩) 1 1)) (w.alloc (.cells cells e))) : o.wp P a w K Q := by
  subst hx
  have hr' : (Instr.buildSlice t 1 (#[(0, x)].map fun (i, x) => (i, a.eval x))).run P w = .ok (.slice (some ⟨w.heap.size, 0, none⟩) 1 1) (w.alloc (.cells cells e)) := by simpa using hr
  unfold Oper.wp execOp
  simp only [ho, Sem.run_bind, hr', Result.andThen_ok]
  exact h
def modS (y : Ar) (ws : List ByteArray) : Ar := if modR ws then { y with m := y.m ++ [modV ws] } else y
theorem modS_yes {ws : List ByteArray} (h : modR ws = true) (y : Ar) : modS y ws = { y with m := y.m ++ [modV ws] } := if_pos h
theorem modS_no {ws : List ByteArray} (h : modR ws = false) (y : Ar) : modS y ws = y := if_neg (by rw [h]; decide)
theorem stW_cases {l : List UInt8} (h : stW l = true) : (l == onW) = true ∨ (l == offW) = true ∨ (l == bypW) = true := by
  unfold stW at h
  simp only [Bool.or_eq_true] at h
  rcases h with (h | h) | h
  · exact .inl h
  · exact .inr (.inl h)
  · exact .inr (.inr h)
def RmRes (base g : Nat) (y : Ar) (ws : List ByteArray) (w : World) (e : Ending) (w' : World) : Prop := ∃ v', e = .returned (.bool (modR ws)) ∧ ArO base g (modS y ws) v' w' ∧ Fr1 base g w w'
theorem zero_fn : ∀ w : World, (zeroValue 200).run Tryz.prog w = .ok .nilFunc w := fun w => by kernel_rfl
theorem map_ex {w w' : World} {b bt : Nat} {t : Nat} {d : Array Value} (h : stMap w b) (hx : Ex [bt] w w') (hb : Blk w bt t d) : stMap w' b := by
  have hne : some b ≠ some bt := fun e => by
    cases e
    obtain ⟨es, cl, h1, _⟩ := h
    rw [show w.heap[b]? = _ from hb] at h1
    cases h1
  exact World.ownsMap.kept h ⟨hx.os, hx.tape, hx.output, hx.size, fun k hk hn => hx.block k hk (fun hm => hn (by rw [List.mem_singleton.1 hm]))⟩ hne
set_option maxRecDepth 100000 in
set_option maxHeartbeats 8000000 in
theorem readM_any (base g : Nat) (y : Ar) (v : Value) (s : ByteArray) (w : World) (hA : ArO base g y v w) (hb : base ≤ w.heap.size) (hg : g < base) (hs : s.size ≤ 90000) (hym : y.m.length ≤ 400) :
    Calls Tryz.prog 85 #[.pointer (some ⟨g, 0, none⟩), .string s, .bool false] w (RmRes base g y (spL s 32) w) := by
  have hwl := (spTo_len s 32 s.size).2
  have hwb : WsB 90000 (spL s 32, false) := fun x hx => Nat.le_trans (spTo_b s 32 s.size (Nat.le_refl _) x hx) hs
  have HSp := Lib.hid (fun W => SSplit_any s W (by omega))
  change (spL s 32).length ≤ s.size + 1 at hwl
  generalize spL s 32 = ws at *
  have HA := Lib.hid hA
  have HWB := Lib.hid hwb
  have HV := Lib.hid (fun h => mod_vals (ws := ws) h)
  have HE := Lib.hid (mod_eq ws)
  have HPe : Hid (modP ws = (((tk (ws, false)).1.toList == modW) && stW (tk (tkN (tk (tk (ws, false)).2).2)).1.toList && !(tk (tkN (tk (tk (ws, false)).2).2)).2.2 && (tk (tkN (tk (tk (ws, false)).2).2)).2.1.isEmpty)) := Lib.hid rfl
  have hgl := hA.box.lt
  clear hA hwb
  go_enter Tryz.func85, Tryz.ntmps85
  go_wp2_with fail
  refine (HSp.out _).mono ?_
  rintro e w1 ⟨gw, cap, rfl, hc, hr, ⟨hgw0, hgw⟩, hb1⟩
  have hs1 := hb1.size
  have HR := Lib.hid hr
  clear hr
  go_wp2_with fail
  have hle1 : w.heap.size ≤ w1.heap.size := hs1
  have HS0 : Hid (RdW base g w1.heap.size w.heap.size (ws, false) y v w (w1.alloc (.cells #[.slice (some ⟨gw, 0, none⟩) ws.length cap, .bool false] 199))) := Lib.hid
    ⟨⟨some ⟨gw, 0, none⟩, ws.length, cap, bk_, hc, (HR.out.more (B' := w1.heap.size) (by omega)).alloc (Nat.le_refl _) _, fun a e => by cases e; exact hgw0⟩, HA.out.kept bl_, (Fr1.refl base g w hb).below bl_, hle1, Nat.le_refl _, hg⟩
  clear HR hc hgw0 hgw hb1 HSp hs1
  generalize w1.heap.size = bt at *
  generalize w1.alloc (.cells #[.slice (some ⟨gw, 0, none⟩) ws.length cap, .bool false] 199) = wa at *
  refine (tword_any bt w.heap.size (ws, false) wa HS0.out.tk (by show ws.length ≤ _; omega)).mono ?_
  rintro e w2 ⟨rfl, ht2, hx2⟩
  have HS1 := Lib.hid (HS0.out.word hx2 ht2)
  have hwb2 := tk_b HWB.out
  have HLn := Lib.hid (tk_len (ws, false))
  clear ht2 hx2 HS0 HWB
  rw [HE.out] at HPe
  generalize (tk (ws, false)).2 = st1 at *
  have hst : st1.1.length ≤ 90001 := by have := HLn.out; dsimp only at this; omega
  obtain ⟨hk0, hwb1⟩ := hwb2
  have HB1 := Lib.hid hwb1
  generalize (tk (ws, false)).1 = k at *
  clear HLn hwl hwb1 hk0
  go_wp2_with fail
  have hbk : (k.toList == [109, 111, 100, 117, 108, 101]) = (k.toList == modW) := rfl
  rw [← hbk] at HPe
  clear hbk
  generalize (k.toList == [109, 111, 100, 117, 108, 101]) = q at *
  have hl1 := tk_len st1
  have hb2 := tk_b HB1.out
  refine (tword_any bt w.heap.size st1 _ HS1.out.tk (by omega)).mono ?_
  rintro e w3 ⟨rfl, ht3, hx3⟩
  have HS2 := Lib.hid (HS1.out.word hx3 ht3)
  obtain ⟨hnm, hwb2⟩ := hb2
  have HB2 := Lib.hid hwb2
  clear ht3 hx3 HS1 HB1 hwb2
  generalize (tk st1).2 = st2 at *
  generalize (tk st1).1 = nm at *
  have hst2 : st2.1.length ≤ 90001 := by omega
  clear hl1 hst
  obtain ⟨d0, hd0⟩ := HS2.out.tk.blk
  have hbt3 := hd0.lt
  clear hd0
  go_wp2_with fail
  have hl2 := tk_len st2
  have hb3 := tk_b HB2.out
  refine (tint_any bt w.heap.size st2 _ (HS2.out.kept bl_).tk (by omega) (Nat.le_trans hb3.1 (by unfold maxLen; decide))).mono ?_
  rintro e w4 ⟨rfl, ht4, hx4⟩
  have bx4 : Blk w4 w3.heap.size 107 #[.string nm, .int .i64 0, .bool false, .bool false] := (hx4.block _ (by simp) (by simp; omega)).trans (Blk.new _ _ _)
  have HX4 : Hid (Ex [bt] w3 w4) := Lib.hid (((Ex.refl [bt] w3).alloc _).trans hx4)
  have HT4 := Lib.hid ht4
  have HB3 := Lib.hid (tkN_b HB2.out)
  have hst3 : (tkN st2).1.length ≤ 90001 := by show (tk st2).2.1.length ≤ _; omega
  clear ht4 hx4 hb3 hl2
  generalize hr2 : rawV (tk st2).1 = r2 at *
  generalize tkN st2 = st3 at *
  clear hr2
  have cx := bx4.cell
  have fx := bx4.frozen
  have lx := bx4.lt
  have HBX := Lib.hid bx4
  have hbm : Hid (w3.heap.size ≤ w3.heap.size) := Lib.hid (Nat.le_refl _)
  obtain ⟨bm, ebm⟩ : ∃ bm, bm = w3.heap.size := ⟨_, rfl⟩
  have HBm : Hid (w3.heap.size ≤ bm) := Lib.hid (Nat.le_of_eq ebm.symm)
  rw [← ebm] at cx fx lx HBX ⊢
  have hbtm : bt < bm := by omega
  clear ebm bx4 hbm
  go_wp2_with fail
  have HX4' := Lib.hid (HX4.out.set_in (p := ⟨bm, 1, none⟩) (.inr HBm.out) (.int .i64 r2))
  have HT4' : Hid (TkAt (w4.setCell ⟨bm, 1, none⟩ (.int .i64 r2)) bt w.heap.size st3) := Lib.hid (HT4.out.ex (X := [bm]) ((Ex.refl [bm] w4).set_in (p := ⟨bm, 1, none⟩) (.inl (List.mem_singleton.2 rfl)) _) (fun j hj => by rw [List.mem_singleton.1 hj]; exact hbtm))
  have HBX' := Lib.hid (HBX.out.set_ 1 (.int .i64 r2))
  clear HX4 HT4 HBX cx fx lx
  refine (states_any _).mono ?_
  rintro e w5 ⟨bs, rfl, hmap, hb5⟩
  have HX5 := Lib.hid (HX4'.out.grown hb5)
  have HT5 := Lib.hid (HT4'.out.kept hb5)
  have HBX5 := Lib.hid (HBX'.out.kept hb5)
  have HM5 := Lib.hid hmap
  clear HX4' HT4' HBX' hmap hb5
  go_wp2_with fail
  have hl3 := tk_len st3
  have hb4 := tk_b HB3.out
  refine (tword_any bt w.heap.size st3 _ HT5.out (by omega)).mono ?_
  rintro e w6 ⟨rfl, ht6, hx6⟩
  obtain ⟨d5, hd5⟩ := HT5.out.blk
  have HX6 := Lib.hid (HX5.out.trans hx6)
  have HS6 := Lib.hid (HS2.out.word HX6.out ht6)
  have HRL : Hid (∀ r, v.ownBlock = some r → r < bm) := Lib.hid (fun r e => Nat.lt_of_lt_of_le (row_base_lt HS2.out.ar.r0 r e).2 HBm.out)
  have HBX6 : Hid (Blk w6 bm 107 #[.string nm, .int .i64 r2, .bool false, .bool false]) := Lib.hid ((hx6.block _ HBX5.out.lt (by simp; omega)).trans HBX5.out)
  have hm6 := map_ex HM5.out hx6 hd5
  clear ht6 hx6 hd5 HX5 HT5 HBX5 HM5 HX6 HS2
  generalize (tk st3).2 = st4 at *
  generalize (tk st3).1 = kw at *
  have hT : Tryz.prog.underlying 202 = some (.map 9 200) := by kernel_rfl
  obtain ⟨vf, ps, hrun, hvf⟩ := hm6.look_ok keyed_str hT (zero_fn w6) stR_nil (WideMaps.keyOf_string_mk und_str (s := kw) (Nat.le_trans hb4.1 (by unfold maxLen; decide)))
  rw [stD_at] at hvf
  rw [stD_has] at hrun
  rw [toList_data kw] at HPe
  have HVF := Lib.hid (stR_inv hvf)
  clear hvf hT hm6 hb4 hl3
  have hkw : Hid (kw.toList = kw.data.toList) := Lib.hid (toList_data kw)
  have hsw : Hid (stW kw.data.toList = stW kw.data.toList) := Lib.hid rfl
  obtain ⟨sw, esw⟩ : ∃ sw, sw = stW kw.data.toList := ⟨_, rfl⟩
  have HSW := Lib.hid esw
  rw [← esw] at hrun HPe
  clear esw hsw
  obtain ⟨r4, q4⟩ := st4
  obtain ⟨A, n, c, bt6, hnc, hrr, hL⟩ := HS6.out.tk
  have hn5 : r4.length = n := by have := hrr.1; simpa using this
  have ct := bt6.cell
  have ft := bt6.frozen
  have lt := bt6.lt
  have HAr := Lib.hid HS6.out.ar
  have HFr := Lib.hid HS6.out.fr
  dsimp only at HPe
  have hbt0 := HS6.out.o0
  have hle := HS6.out.fr.le
  have hsz := HS6.out.fr.size
  clear bt6 hrr hL HS6
  have HNO : Hid (modR ws = false → RmRes base g y ws w (.returned (.bool false)) w6) := Lib.hid (fun h => ⟨v, by rw [h], by rw [modS_no h]; exact HAr.out, HFr.out⟩)
  cases q with
  | false =>
    have HN := Lib.hid (HNO.out (by rw [HPe.out]; rfl))
    go_wp2_with fail
    go_ret
    exact HN.out
  | true =>
    cases sw with
    | false =>
      have HN := Lib.hid (HNO.out (by rw [HPe.out]; rfl))
      go_wp2_with fail
      go_ret
      exact HN.out
    | true =>
      cases q4 with
      | true =>
        have HN := Lib.hid (HNO.out (by rw [HPe.out]; rfl))
        go_wp2_with fail
        go_ret
        exact HN.out
      | false =>
        by_cases h0 : 0 < n
        · have HN := Lib.hid (HNO.out (by
            rw [HPe.out]
            cases r4 with
            | nil => simp at hn5; omega
            | cons x l => rfl))
          have h0' : (0 : Int) < (n : Int) := by omega
          go_wp2_with fail
          go_ret
          exact HN.out
        · have hyes : modR ws = true := by
            rw [HPe.out]
            cases r4 with
            | nil => rfl
            | cons x l => simp at hn5; omega
          have h0' : ¬ (0 : Int) < (n : Int) := by omega
          obtain ⟨e1, e2, e3⟩ := HV.out hyes
          have HMV : Hid (modV ws = ⟨nm, r2, kw.toList == onW, kw.toList == bypW⟩) := Lib.hid (by unfold modV; rw [← e1, ← e2, ← e3])
          have HYES := Lib.hid hyes
          clear hyes e1 e2 e3 HNO
          have hswc := stW_cases HSW.out.symm
          rw [← hkw.out] at hswc
          have cA := HAr.out.box.cell
          have lA := HAr.out.box.lt
          have cM := HBX6.out.cell
          have lM := HBX6.out.lt
          obtain ⟨A6, cA6, rfl, _, _, hrd6⟩ := own_form HAr.out.r0
          have hgb : g < bm := by omega
          obtain ⟨r0, hr0, hr1, hr2⟩ : ∃ r0, (∀ r, (Value.slice A6 y.m.length cA6).ownBlock = some r → r = r0) ∧ r0 < w6.heap.size ∧ r0 < bm := by
            cases h : (Value.slice A6 y.m.length cA6).ownBlock with
            | none => exact ⟨g, fun r e => (by cases e), lA, hgb⟩
            | some r => exact ⟨r, fun z e => (by cases e; rfl), (row_base_lt HAr.out.r0 r h).2, HRL.out r h⟩
          have hbg : bm ≠ g := by omega
          have hbr : bm ≠ r0 := by omega
          have HR0 := Lib.hid hr0
          clear hr0 hrd6
          rcases hswc with hw | hw | hw
          · have hvf : vf = .func (.func 185) #[] #[] := HVF.out.1 (by rw [← hkw.out]; rw [eq_of_beq hw]; rfl)
            subst hvf
            have HMV2 : Hid (modV ws = ⟨nm, r2, true, false⟩) := Lib.hid (by rw [HMV.out, eq_of_beq hw]; rfl)
            have HC : Hid (∀ W, Calls Tryz.prog 185 #[.agg #[.string nm, .int .i64 r2, .bool false, .bool false]] W fun e w' => e = .returned (.agg #[.string nm, .int .i64 r2, .bool true, .bool false]) ∧ Below W.heap.size W w') := Lib.hid (fun W => st1_any ⟨nm, r2, false, false⟩ W)
            clear hw HVF
            go_wp2_with fail
            (refine wp_region_calm [g, r0] [0, 1, 2, 3, 5, 6] 7 (by kernel_rfl) rfl (by kernel_rfl) (by kernel_rfl) (by kernel_rfl) ?_; simp only [pickB, List.filterMap_cons, List.filterMap_nil, List.getElem?_toArray, List.getElem?_cons_zero, List.getElem?_cons_succ]; (repeat (first | ((first | (with_reducible refine quietL_plain rfl (fun K hK => ?_)) | (with_reducible refine quietL_want (by with_unfolding_all rfl) (fun K hK => ?_))); (apply Exists.intro; refine ⟨fun wx hx => ?_, ?_⟩; (· (have hcx := ifs_ex hx); simp [go_sem, *, ↓IntWalk.iteOmega] <;> (first | rfl | exact ⟨rfl, rfl⟩ | fail)); (simp only [Act.put, List.setIfInBounds_toArray, List.set_cons_zero, List.set_cons_succ]; refine hK _ ?_; clear hK K))) | ((with_reducible refine quietL_skip (by with_unfolding_all rfl) ?_); simp only [Act.put, List.setIfInBounds_toArray, List.set_cons_zero, List.set_cons_succ]))); refine quietL_nil ?_)
            refine anyB_two (i := 4) (j := 7) (by kernel_rfl) rfl rfl rfl rfl ?_ ?_
            · intro w8 hb8 K hK
              have HL8 : Hid (Below w6.heap.size w6 w8) := Lib.hid (hb8)
              have hs8 := HL8.out.size
              have cl := (HAr.out.kept HL8.out).box.cell
              have ll := (HAr.out.kept HL8.out).box.lt
              go_wp2
              refine ⟨xs_, ?_⟩
              clear cl ll
              refine anyB_one (i := 7) (by kernel_rfl) rfl rfl ?_
              intro w9 hb9 K hK
              have HL9 : Hid (Below w6.heap.size w6 w9) := Lib.hid (HL8.out.trans (hb9.mono HL8.out.size))
              have hs9 := HL9.out.size
              go_wp2_with fail
              refine (HC.out _).mono ?_
              rintro e w10 ⟨rfl, hb10⟩
              have HL10 : Hid (Below w6.heap.size w6 w10) := Lib.hid (HL9.out.trans (hb10.mono HL9.out.size))
              have hs10 := HL10.out.size
              go_wp2
              refine ⟨xs_, ?_⟩
              refine anyB_one (i := 8) (by kernel_rfl) rfl rfl ?_
              intro w11 hb11 K hK
              have HL11 : Hid (Below w6.heap.size w6 w11) := Lib.hid (HL10.out.trans (hb11.mono HL10.out.size))
              have hs11 := HL11.out.size
              refine wp_bs 34 107 (.tmp 105) (.agg #[.string nm, .int .i64 r2, .bool true, .bool false]) #[.string nm, .int .i64 r2, .bool true, .bool false] rfl rfl (by kernel_rfl) (hK _ _ ⟨xs_, ?_⟩)
              clear hK K
              have HBL11 : Hid (Blk (w11.alloc (.cells #[.string nm, .int .i64 r2, .bool true, .bool false] 107)) w11.heap.size 107 #[.string nm, .int .i64 r2, .bool true, .bool false]) := Lib.hid (Blk.new _ _ _)
              have HLA11 : Hid (Below w6.heap.size w6 (w11.alloc (.cells #[.string nm, .int .i64 r2, .bool true, .bool false] 107))) := Lib.hid (HL11.out.alloc HL11.out.size _)
              refine anyB_one (i := 9) (by kernel_rfl) rfl rfl ?_
              intro w12 hb12 K hK
              have HBL := HBL11.out.kept hb12
              have HL12 : Hid (Below w6.heap.size w6 w12) := Lib.hid (HLA11.out.trans (hb12.mono HLA11.out.size))
              have hAd := HAr.out.kept HL12.out
              have hsd := HL12.out.size
              refine wp_appB 34 107 4 32 elemMd (.tmp 102) (.tmp 106) rfl base _ _ _ rfl hAd.r0 w11.heap.size 1 _ rfl HBL rfl ?_ (by decide) ?_ ?_ ?_ ?_
              · intro u hu; simp at hu; rcases hu with rfl | rfl | rfl | rfl <;> rfl
              · unfold maxLen; omega
              · omega
              · omega
              intro g' cap' we hown hgr hat
              have hXe : Ex [g, r0] w6 we := (Ex.of_below HL12.out).trans (Ex.of_grown hgr (fun r e => by rw [HR0.out r e]; simp))
              refine hK _ _ ⟨hXe, ?_⟩
              clear hK K hat
              have HG := Lib.hid hgr
              have HO := Lib.hid hown
              have HAd := Lib.hid hAd
              have hbe := hAd.box.grown hgr (own_neT hAd.r0 hAd.box (by decide))
              have HBe := Lib.hid hbe
              clear hown hgr hAd hbe HBL
              (refine anyB_quiet_at (by kernel_rfl) calm_panic xs_ 1 [10, 11] _ _ (by kernel_rfl) (by decide +kernel) ?_; simp only [pickB, List.filterMap_cons, List.filterMap_nil, List.getElem?_toArray, List.getElem?_cons_zero, List.getElem?_cons_succ]; (repeat (first | ((first | (with_reducible refine quietL_plain rfl (fun K hK => ?_)) | (with_reducible refine quietL_want (by with_unfolding_all rfl) (fun K hK => ?_))); (apply Exists.intro; refine ⟨fun wx hx => ?_, ?_⟩; (· (have hcx := ifs_ex hx); simp [go_sem, *, ↓IntWalk.iteOmega] <;> (first | rfl | exact ⟨rfl, rfl⟩ | fail)); (simp only [Act.put, List.setIfInBounds_toArray, List.set_cons_zero, List.set_cons_succ]; refine hK _ ?_; clear hK K))) | ((with_reducible refine quietL_skip (by with_unfolding_all rfl) ?_); simp only [Act.put, List.setIfInBounds_toArray, List.set_cons_zero, List.set_cons_succ]))); refine quietL_nil ?_)
              refine anyB_one (i := 12) (by kernel_rfl) rfl rfl ?_
              intro wf hbf K hK
              have bg := HBe.out.kept hbf
              have cgf := bg.cell
              have fgf := bg.frozen
              have lgf := bg.lt
              have HN := Lib.hid (HAd.out.app (x := ⟨nm, r2, true, false⟩) (grown_thenK HG.out hbf) (HO.out.kept hbf))
              have HFr9 := Lib.hid ((((HFr.out.below HL12.out).grown HAd.out.r0 HG.out).below hbf).set (k := g) (.inl rfl) 0 (.slice (some ⟨g', 0, none⟩) (y.m.length + 1) cap'))
              clear bg
              go_wp2
              refine ⟨xs_, ?_⟩
              refine anyB_end (by kernel_rfl) ?_
              intro wm hbm
              simp only [Calm]
              have HN2 := Lib.hid (HN.out.kept hbm)
              have HFr2 := Lib.hid (HFr9.out.below hbm)
              clear HN HFr9 HG HO HBe
              go_wp2_with fail
              go_ret
              exact ⟨_, by rw [HYES.out]; rfl, by rw [modS_yes HYES.out, HMV2.out]; exact HN2.out, HFr2.out⟩
            · intro w8 hb8 K hK
              have HL8 : Hid (Below w6.heap.size w6 w8) := Lib.hid (hb8)
              have hs8 := HL8.out.size
              go_wp2_with fail
              refine (HC.out _).mono ?_
              rintro e w9 ⟨rfl, hb9⟩
              have HL9 : Hid (Below w6.heap.size w6 w9) := Lib.hid (HL8.out.trans (hb9.mono HL8.out.size))
              have hs9 := HL9.out.size
              go_wp2
              refine ⟨xs_, ?_⟩
              refine anyB_two (i := 4) (j := 8) (by kernel_rfl) rfl rfl rfl rfl ?_ ?_
              · intro w10 hb10 K hK
                have HL10 : Hid (Below w6.heap.size w6 w10) := Lib.hid (HL9.out.trans (hb10.mono HL9.out.size))
                have hs10 := HL10.out.size
                have cl := (HAr.out.kept HL10.out).box.cell
                have ll := (HAr.out.kept HL10.out).box.lt
                go_wp2
                refine ⟨xs_, ?_⟩
                clear cl ll
                refine anyB_one (i := 8) (by kernel_rfl) rfl rfl ?_
                intro w11 hb11 K hK
                have HL11 : Hid (Below w6.heap.size w6 w11) := Lib.hid (HL10.out.trans (hb11.mono HL10.out.size))
                have hs11 := HL11.out.size
                refine wp_bs 34 107 (.tmp 105) (.agg #[.string nm, .int .i64 r2, .bool true, .bool false]) #[.string nm, .int .i64 r2, .bool true, .bool false] rfl rfl (by kernel_rfl) (hK _ _ ⟨xs_, ?_⟩)
                clear hK K
                have HBL11 : Hid (Blk (w11.alloc (.cells #[.string nm, .int .i64 r2, .bool true, .bool false] 107)) w11.heap.size 107 #[.string nm, .int .i64 r2, .bool true, .bool false]) := Lib.hid (Blk.new _ _ _)
                have HLA11 : Hid (Below w6.heap.size w6 (w11.alloc (.cells #[.string nm, .int .i64 r2, .bool true, .bool false] 107))) := Lib.hid (HL11.out.alloc HL11.out.size _)
                refine anyB_one (i := 9) (by kernel_rfl) rfl rfl ?_
                intro w12 hb12 K hK
                have HBL := HBL11.out.kept hb12
                have HL12 : Hid (Below w6.heap.size w6 w12) := Lib.hid (HLA11.out.trans (hb12.mono HLA11.out.size))
                have hAd := HAr.out.kept HL12.out
                have hsd := HL12.out.size
                refine wp_appB 34 107 4 32 elemMd (.tmp 102) (.tmp 106) rfl base _ _ _ rfl hAd.r0 w11.heap.size 1 _ rfl HBL rfl ?_ (by decide) ?_ ?_ ?_ ?_
                · intro u hu; simp at hu; rcases hu with rfl | rfl | rfl | rfl <;> rfl
                · unfold maxLen; omega
                · omega
                · omega
                intro g' cap' we hown hgr hat
                have hXe : Ex [g, r0] w6 we := (Ex.of_below HL12.out).trans (Ex.of_grown hgr (fun r e => by rw [HR0.out r e]; simp))
                refine hK _ _ ⟨hXe, ?_⟩
                clear hK K hat
                have HG := Lib.hid hgr
                have HO := Lib.hid hown
                have HAd := Lib.hid hAd
                have hbe := hAd.box.grown hgr (own_neT hAd.r0 hAd.box (by decide))
                have HBe := Lib.hid hbe
                clear hown hgr hAd hbe HBL
                (refine anyB_quiet_at (by kernel_rfl) calm_panic xs_ 1 [10, 11] _ _ (by kernel_rfl) (by decide +kernel) ?_; simp only [pickB, List.filterMap_cons, List.filterMap_nil, List.getElem?_toArray, List.getElem?_cons_zero, List.getElem?_cons_succ]; (repeat (first | ((first | (with_reducible refine quietL_plain rfl (fun K hK => ?_)) | (with_reducible refine quietL_want (by with_unfolding_all rfl) (fun K hK => ?_))); (apply Exists.intro; refine ⟨fun wx hx => ?_, ?_⟩; (· (have hcx := ifs_ex hx); simp [go_sem, *, ↓IntWalk.iteOmega] <;> (first | rfl | exact ⟨rfl, rfl⟩ | fail)); (simp only [Act.put, List.setIfInBounds_toArray, List.set_cons_zero, List.set_cons_succ]; refine hK _ ?_; clear hK K))) | ((with_reducible refine quietL_skip (by with_unfolding_all rfl) ?_); simp only [Act.put, List.setIfInBounds_toArray, List.set_cons_zero, List.set_cons_succ]))); refine quietL_nil ?_)
                refine anyB_one (i := 12) (by kernel_rfl) rfl rfl ?_
                intro wf hbf K hK
                have bg := HBe.out.kept hbf
                have cgf := bg.cell
                have fgf := bg.frozen
                have lgf := bg.lt
                have HN := Lib.hid (HAd.out.app (x := ⟨nm, r2, true, false⟩) (grown_thenK HG.out hbf) (HO.out.kept hbf))
                have HFr9 := Lib.hid ((((HFr.out.below HL12.out).grown HAd.out.r0 HG.out).below hbf).set (k := g) (.inl rfl) 0 (.slice (some ⟨g', 0, none⟩) (y.m.length + 1) cap'))
                clear bg
                go_wp2
                refine ⟨xs_, ?_⟩
                refine anyB_end (by kernel_rfl) ?_
                intro wm hbm
                simp only [Calm]
                have HN2 := Lib.hid (HN.out.kept hbm)
                have HFr2 := Lib.hid (HFr9.out.below hbm)
                clear HN HFr9 HG HO HBe
                go_wp2_with fail
                go_ret
                exact ⟨_, by rw [HYES.out]; rfl, by rw [modS_yes HYES.out, HMV2.out]; exact HN2.out, HFr2.out⟩
              · intro w10 hb10 K hK
                have HL10 : Hid (Below w6.heap.size w6 w10) := Lib.hid (HL9.out.trans (hb10.mono HL9.out.size))
                have hs10 := HL10.out.size
                refine wp_bs 34 107 (.tmp 105) (.agg #[.string nm, .int .i64 r2, .bool true, .bool false]) #[.string nm, .int .i64 r2, .bool true, .bool false] rfl rfl (by kernel_rfl) (hK _ _ ⟨xs_, ?_⟩)
                clear hK K
                have HBL10 : Hid (Blk (w10.alloc (.cells #[.string nm, .int .i64 r2, .bool true, .bool false] 107)) w10.heap.size 107 #[.string nm, .int .i64 r2, .bool true, .bool false]) := Lib.hid (Blk.new _ _ _)
                have HLA10 : Hid (Below w6.heap.size w6 (w10.alloc (.cells #[.string nm, .int .i64 r2, .bool true, .bool false] 107))) := Lib.hid (HL10.out.alloc HL10.out.size _)
                refine anyB_one (i := 4) (by kernel_rfl) rfl rfl ?_
                intro w11 hb11 K hK
                have HL11 : Hid (Below w6.heap.size w6 w11) := Lib.hid (HLA10.out.trans (hb11.mono HLA10.out.size))
                have hs11 := HL11.out.size
                have cl := (HAr.out.kept HL11.out).box.cell
                have ll := (HAr.out.kept HL11.out).box.lt
                go_wp2
                refine ⟨xs_, ?_⟩
                clear cl ll
                refine anyB_one (i := 9) (by kernel_rfl) rfl rfl ?_
                intro w12 hb12 K hK
                have HBL := (HBL10.out.kept hb11).kept hb12
                have HL12 : Hid (Below w6.heap.size w6 w12) := Lib.hid (HL11.out.trans (hb12.mono HL11.out.size))
                have hAd := HAr.out.kept HL12.out
                have hsd := HL12.out.size
                refine wp_appB 34 107 4 32 elemMd (.tmp 102) (.tmp 106) rfl base _ _ _ rfl hAd.r0 w10.heap.size 1 _ rfl HBL rfl ?_ (by decide) ?_ ?_ ?_ ?_
                · intro u hu; simp at hu; rcases hu with rfl | rfl | rfl | rfl <;> rfl
                · unfold maxLen; omega
                · omega
                · omega
                intro g' cap' we hown hgr hat
                have hXe : Ex [g, r0] w6 we := (Ex.of_below HL12.out).trans (Ex.of_grown hgr (fun r e => by rw [HR0.out r e]; simp))
                refine hK _ _ ⟨hXe, ?_⟩
                clear hK K hat
                have HG := Lib.hid hgr
                have HO := Lib.hid hown
                have HAd := Lib.hid hAd
                have hbe := hAd.box.grown hgr (own_neT hAd.r0 hAd.box (by decide))
                have HBe := Lib.hid hbe
                clear hown hgr hAd hbe HBL
                (refine anyB_quiet_at (by kernel_rfl) calm_panic xs_ 1 [10, 11] _ _ (by kernel_rfl) (by decide +kernel) ?_; simp only [pickB, List.filterMap_cons, List.filterMap_nil, List.getElem?_toArray, List.getElem?_cons_zero, List.getElem?_cons_succ]; (repeat (first | ((first | (with_reducible refine quietL_plain rfl (fun K hK => ?_)) | (with_reducible refine quietL_want (by with_unfolding_all rfl) (fun K hK => ?_))); (apply Exists.intro; refine ⟨fun wx hx => ?_, ?_⟩; (· (have hcx := ifs_ex hx); simp [go_sem, *, ↓IntWalk.iteOmega] <;> (first | rfl | exact ⟨rfl, rfl⟩ | fail)); (simp only [Act.put, List.setIfInBounds_toArray, List.set_cons_zero, List.set_cons_succ]; refine hK _ ?_; clear hK K))) | ((with_reducible refine quietL_skip (by with_unfolding_all rfl) ?_); simp only [Act.put, List.setIfInBounds_toArray, List.set_cons_zero, List.set_cons_succ]))); refine quietL_nil ?_)
                refine anyB_one (i := 12) (by kernel_rfl) rfl rfl ?_
                intro wf hbf K hK
                have bg := HBe.out.kept hbf
                have cgf := bg.cell
                have fgf := bg.frozen
                have lgf := bg.lt
                have HN := Lib.hid (HAd.out.app (x := ⟨nm, r2, true, false⟩) (grown_thenK HG.out hbf) (HO.out.kept hbf))
                have HFr9 := Lib.hid ((((HFr.out.below HL12.out).grown HAd.out.r0 HG.out).below hbf).set (k := g) (.inl rfl) 0 (.slice (some ⟨g', 0, none⟩) (y.m.length + 1) cap'))
                clear bg
                go_wp2
                refine ⟨xs_, ?_⟩
                refine anyB_end (by kernel_rfl) ?_
                intro wm hbm
                simp only [Calm]
                have HN2 := Lib.hid (HN.out.kept hbm)
                have HFr2 := Lib.hid (HFr9.out.below hbm)
                clear HN HFr9 HG HO HBe
                go_wp2_with fail
                go_ret
                exact ⟨_, by rw [HYES.out]; rfl, by rw [modS_yes HYES.out, HMV2.out]; exact HN2.out, HFr2.out⟩
          · have hvf : vf = .func (.func 186) #[] #[] := HVF.out.2.1 (by rw [← hkw.out]; rw [eq_of_beq hw]; rfl)
            subst hvf
            have HMV2 : Hid (modV ws = ⟨nm, r2, false, false⟩) := Lib.hid (by rw [HMV.out, eq_of_beq hw]; rfl)
            have HC : Hid (∀ W, Calls Tryz.prog 186 #[.agg #[.string nm, .int .i64 r2, .bool false, .bool false]] W fun e w' => e = .returned (.agg #[.string nm, .int .i64 r2, .bool false, .bool false]) ∧ Below W.heap.size W w') := Lib.hid (fun W => st2_any ⟨nm, r2, false, false⟩ W)
            clear hw HVF
            go_wp2_with fail
            (refine wp_region_calm [g, r0] [0, 1, 2, 3, 5, 6] 7 (by kernel_rfl) rfl (by kernel_rfl) (by kernel_rfl) (by kernel_rfl) ?_; simp only [pickB, List.filterMap_cons, List.filterMap_nil, List.getElem?_toArray, List.getElem?_cons_zero, List.getElem?_cons_succ]; (repeat (first | ((first | (with_reducible refine quietL_plain rfl (fun K hK => ?_)) | (with_reducible refine quietL_want (by with_unfolding_all rfl) (fun K hK => ?_))); (apply Exists.intro; refine ⟨fun wx hx => ?_, ?_⟩; (· (have hcx := ifs_ex hx); simp [go_sem, *, ↓IntWalk.iteOmega] <;> (first | rfl | exact ⟨rfl, rfl⟩ | fail)); (simp only [Act.put, List.setIfInBounds_toArray, List.set_cons_zero, List.set_cons_succ]; refine hK _ ?_; clear hK K))) | ((with_reducible refine quietL_skip (by with_unfolding_all rfl) ?_); simp only [Act.put, List.setIfInBounds_toArray, List.set_cons_zero, List.set_cons_succ]))); refine quietL_nil ?_)
            refine anyB_two (i := 4) (j := 7) (by kernel_rfl) rfl rfl rfl rfl ?_ ?_
            · intro w8 hb8 K hK
              have HL8 : Hid (Below w6.heap.size w6 w8) := Lib.hid (hb8)
              have hs8 := HL8.out.size
              have cl := (HAr.out.kept HL8.out).box.cell
              have ll := (HAr.out.kept HL8.out).box.lt
              go_wp2
              refine ⟨xs_, ?_⟩
              clear cl ll
              refine anyB_one (i := 7) (by kernel_rfl) rfl rfl ?_
              intro w9 hb9 K hK
              have HL9 : Hid (Below w6.heap.size w6 w9) := Lib.hid (HL8.out.trans (hb9.mono HL8.out.size))
              have hs9 := HL9.out.size
              go_wp2_with fail
              refine (HC.out _).mono ?_
              rintro e w10 ⟨rfl, hb10⟩
              have HL10 : Hid (Below w6.heap.size w6 w10) := Lib.hid (HL9.out.trans (hb10.mono HL9.out.size))
              have hs10 := HL10.out.size
              go_wp2
              refine ⟨xs_, ?_⟩
              refine anyB_one (i := 8) (by kernel_rfl) rfl rfl ?_
              intro w11 hb11 K hK
              have HL11 : Hid (Below w6.heap.size w6 w11) := Lib.hid (HL10.out.trans (hb11.mono HL10.out.size))
              have hs11 := HL11.out.size
              refine wp_bs 34 107 (.tmp 105) (.agg #[.string nm, .int .i64 r2, .bool false, .bool false]) #[.string nm, .int .i64 r2, .bool false, .bool false] rfl rfl (by kernel_rfl) (hK _ _ ⟨xs_, ?_⟩)
              clear hK K
              have HBL11 : Hid (Blk (w11.alloc (.cells #[.string nm, .int .i64 r2, .bool false, .bool false] 107)) w11.heap.size 107 #[.string nm, .int .i64 r2, .bool false, .bool false]) := Lib.hid (Blk.new _ _ _)
              have HLA11 : Hid (Below w6.heap.size w6 (w11.alloc (.cells #[.string nm, .int .i64 r2, .bool false, .bool false] 107))) := Lib.hid (HL11.out.alloc HL11.out.size _)
              refine anyB_one (i := 9) (by kernel_rfl) rfl rfl ?_
              intro w12 hb12 K hK
              have HBL := HBL11.out.kept hb12
              have HL12 : Hid (Below w6.heap.size w6 w12) := Lib.hid (HLA11.out.trans (hb12.mono HLA11.out.size))
              have hAd := HAr.out.kept HL12.out
              have hsd := HL12.out.size
              refine wp_appB 34 107 4 32 elemMd (.tmp 102) (.tmp 106) rfl base _ _ _ rfl hAd.r0 w11.heap.size 1 _ rfl HBL rfl ?_ (by decide) ?_ ?_ ?_ ?_
              · intro u hu; simp at hu; rcases hu with rfl | rfl | rfl | rfl <;> rfl
              · unfold maxLen; omega
              · omega
              · omega
              intro g' cap' we hown hgr hat
              have hXe : Ex [g, r0] w6 we := (Ex.of_below HL12.out).trans (Ex.of_grown hgr (fun r e => by rw [HR0.out r e]; simp))
              refine hK _ _ ⟨hXe, ?_⟩
              clear hK K hat
              have HG := Lib.hid hgr
              have HO := Lib.hid hown
              have HAd := Lib.hid hAd
              have hbe := hAd.box.grown hgr (own_neT hAd.r0 hAd.box (by decide))
              have HBe := Lib.hid hbe
              clear hown hgr hAd hbe HBL
              (refine anyB_quiet_at (by kernel_rfl) calm_panic xs_ 1 [10, 11] _ _ (by kernel_rfl) (by decide +kernel) ?_; simp only [pickB, List.filterMap_cons, List.filterMap_nil, List.getElem?_toArray, List.getElem?_cons_zero, List.getElem?_cons_succ]; (repeat (first | ((first | (with_reducible refine quietL_plain rfl (fun K hK => ?_)) | (with_reducible refine quietL_want (by with_unfolding_all rfl) (fun K hK => ?_))); (apply Exists.intro; refine ⟨fun wx hx => ?_, ?_⟩; (· (have hcx := ifs_ex hx); simp [go_sem, *, ↓IntWalk.iteOmega] <;> (first | rfl | exact ⟨rfl, rfl⟩ | fail)); (simp only [Act.put, List.setIfInBounds_toArray, List.set_cons_zero, List.set_cons_succ]; refine hK _ ?_; clear hK K))) | ((with_reducible refine quietL_skip (by with_unfolding_all rfl) ?_); simp only [Act.put, List.setIfInBounds_toArray, List.set_cons_zero, List.set_cons_succ]))); refine quietL_nil ?_)
              refine anyB_one (i := 12) (by kernel_rfl) rfl rfl ?_
              intro wf hbf K hK
              have bg := HBe.out.kept hbf
              have cgf := bg.cell
              have fgf := bg.frozen
              have lgf := bg.lt
              have HN := Lib.hid (HAd.out.app (x := ⟨nm, r2, false, false⟩) (grown_thenK HG.out hbf) (HO.out.kept hbf))
              have HFr9 := Lib.hid ((((HFr.out.below HL12.out).grown HAd.out.r0 HG.out).below hbf).set (k := g) (.inl rfl) 0 (.slice (some ⟨g', 0, none⟩) (y.m.length + 1) cap'))
              clear bg
              go_wp2
              refine ⟨xs_, ?_⟩
              refine anyB_end (by kernel_rfl) ?_
              intro wm hbm
              simp only [Calm]
              have HN2 := Lib.hid (HN.out.kept hbm)
              have HFr2 := Lib.hid (HFr9.out.below hbm)
              clear HN HFr9 HG HO HBe
              go_wp2_with fail
              go_ret
              exact ⟨_, by rw [HYES.out]; rfl, by rw [modS_yes HYES.out, HMV2.out]; exact HN2.out, HFr2.out⟩
            · intro w8 hb8 K hK
              have HL8 : Hid (Below w6.heap.size w6 w8) := Lib.hid (hb8)
              have hs8 := HL8.out.size
              go_wp2_with fail
              refine (HC.out _).mono ?_
              rintro e w9 ⟨rfl, hb9⟩
              have HL9 : Hid (Below w6.heap.size w6 w9) := Lib.hid (HL8.out.trans (hb9.mono HL8.out.size))
              have hs9 := HL9.out.size
              go_wp2
              refine ⟨xs_, ?_⟩
              refine anyB_two (i := 4) (j := 8) (by kernel_rfl) rfl rfl rfl rfl ?_ ?_
              · intro w10 hb10 K hK
                have HL10 : Hid (Below w6.heap.size w6 w10) := Lib.hid (HL9.out.trans (hb10.mono HL9.out.size))
                have hs10 := HL10.out.size
                have cl := (HAr.out.kept HL10.out).box.cell
                have ll := (HAr.out.kept HL10.out).box.lt
                go_wp2
                refine ⟨xs_, ?_⟩
                clear cl ll
                refine anyB_one (i := 8) (by kernel_rfl) rfl rfl ?_
                intro w11 hb11 K hK
                have HL11 : Hid (Below w6.heap.size w6 w11) := Lib.hid (HL10.out.trans (hb11.mono HL10.out.size))
                have hs11 := HL11.out.size
                refine wp_bs 34 107 (.tmp 105) (.agg #[.string nm, .int .i64 r2, .bool false, .bool false]) #[.string nm, .int .i64 r2, .bool false, .bool false] rfl rfl (by kernel_rfl) (hK _ _ ⟨xs_, ?_⟩)
                clear hK K
                have HBL11 : Hid (Blk (w11.alloc (.cells #[.string nm, .int .i64 r2, .bool false, .bool false] 107)) w11.heap.size 107 #[.string nm, .int .i64 r2, .bool false, .bool false]) := Lib.hid (Blk.new _ _ _)
                have HLA11 : Hid (Below w6.heap.size w6 (w11.alloc (.cells #[.string nm, .int .i64 r2, .bool false, .bool false] 107))) := Lib.hid (HL11.out.alloc HL11.out.size _)
                refine anyB_one (i := 9) (by kernel_rfl) rfl rfl ?_
                intro w12 hb12 K hK
                have HBL := HBL11.out.kept hb12
                have HL12 : Hid (Below w6.heap.size w6 w12) := Lib.hid (HLA11.out.trans (hb12.mono HLA11.out.size))
                have hAd := HAr.out.kept HL12.out
                have hsd := HL12.out.size
                refine wp_appB 34 107 4 32 elemMd (.tmp 102) (.tmp 106) rfl base _ _ _ rfl hAd.r0 w11.heap.size 1 _ rfl HBL rfl ?_ (by decide) ?_ ?_ ?_ ?_
                · intro u hu; simp at hu; rcases hu with rfl | rfl | rfl | rfl <;> rfl
                · unfold maxLen; omega
                · omega
                · omega
                intro g' cap' we hown hgr hat
                have hXe : Ex [g, r0] w6 we := (Ex.of_below HL12.out).trans (Ex.of_grown hgr (fun r e => by rw [HR0.out r e]; simp))
                refine hK _ _ ⟨hXe, ?_⟩
                clear hK K hat
                have HG := Lib.hid hgr
                have HO := Lib.hid hown
                have HAd := Lib.hid hAd
                have hbe := hAd.box.grown hgr (own_neT hAd.r0 hAd.box (by decide))
                have HBe := Lib.hid hbe
                clear hown hgr hAd hbe HBL
                (refine anyB_quiet_at (by kernel_rfl) calm_panic xs_ 1 [10, 11] _ _ (by kernel_rfl) (by decide +kernel) ?_; simp only [pickB, List.filterMap_cons, List.filterMap_nil, List.getElem?_toArray, List.getElem?_cons_zero, List.getElem?_cons_succ]; (repeat (first | ((first | (with_reducible refine quietL_plain rfl (fun K hK => ?_)) | (with_reducible refine quietL_want (by with_unfolding_all rfl) (fun K hK => ?_))); (apply Exists.intro; refine ⟨fun wx hx => ?_, ?_⟩; (· (have hcx := ifs_ex hx); simp [go_sem, *, ↓IntWalk.iteOmega] <;> (first | rfl | exact ⟨rfl, rfl⟩ | fail)); (simp only [Act.put, List.setIfInBounds_toArray, List.set_cons_zero, List.set_cons_succ]; refine hK _ ?_; clear hK K))) | ((with_reducible refine quietL_skip (by with_unfolding_all rfl) ?_); simp only [Act.put, List.setIfInBounds_toArray, List.set_cons_zero, List.set_cons_succ]))); refine quietL_nil ?_)
                refine anyB_one (i := 12) (by kernel_rfl) rfl rfl ?_
                intro wf hbf K hK
                have bg := HBe.out.kept hbf
                have cgf := bg.cell
                have fgf := bg.frozen
                have lgf := bg.lt
                have HN := Lib.hid (HAd.out.app (x := ⟨nm, r2, false, false⟩) (grown_thenK HG.out hbf) (HO.out.kept hbf))
                have HFr9 := Lib.hid ((((HFr.out.below HL12.out).grown HAd.out.r0 HG.out).below hbf).set (k := g) (.inl rfl) 0 (.slice (some ⟨g', 0, none⟩) (y.m.length + 1) cap'))
                clear bg
                go_wp2
                refine ⟨xs_, ?_⟩
                refine anyB_end (by kernel_rfl) ?_
                intro wm hbm
                simp only [Calm]
                have HN2 := Lib.hid (HN.out.kept hbm)
                have HFr2 := Lib.hid (HFr9.out.below hbm)
                clear HN HFr9 HG HO HBe
                go_wp2_with fail
                go_ret
                exact ⟨_, by rw [HYES.out]; rfl, by rw [modS_yes HYES.out, HMV2.out]; exact HN2.out, HFr2.out⟩
              · intro w10 hb10 K hK
                have HL10 : Hid (Below w6.heap.size w6 w10) := Lib.hid (HL9.out.trans (hb10.mono HL9.out.size))
                have hs10 := HL10.out.size
                refine wp_bs 34 107 (.tmp 105) (.agg #[.string nm, .int .i64 r2, .bool false, .bool false]) #[.string nm, .int .i64 r2, .bool false, .bool false] rfl rfl (by kernel_rfl) (hK _ _ ⟨xs_, ?_⟩)
                clear hK K
                have HBL10 : Hid (Blk (w10.alloc (.cells #[.string nm, .int .i64 r2, .bool false, .bool false] 107)) w10.heap.size 107 #[.string nm, .int .i64 r2, .bool false, .bool false]) := Lib.hid (Blk.new _ _ _)
                have HLA10 : Hid (Below w6.heap.size w6 (w10.alloc (.cells #[.string nm, .int .i64 r2, .bool false, .bool false] 107))) := Lib.hid (HL10.out.alloc HL10.out.size _)
                refine anyB_one (i := 4) (by kernel_rfl) rfl rfl ?_
                intro w11 hb11 K hK
                have HL11 : Hid (Below w6.heap.size w6 w11) := Lib.hid (HLA10.out.trans (hb11.mono HLA10.out.size))
                have hs11 := HL11.out.size
                have cl := (HAr.out.kept HL11.out).box.cell
                have ll := (HAr.out.kept HL11.out).box.lt
                go_wp2
                refine ⟨xs_, ?_⟩
                clear cl ll
                refine anyB_one (i := 9) (by kernel_rfl) rfl rfl ?_
                intro w12 hb12 K hK
                have HBL := (HBL10.out.kept hb11).kept hb12
                have HL12 : Hid (Below w6.heap.size w6 w12) := Lib.hid (HL11.out.trans (hb12.mono HL11.out.size))
                have hAd := HAr.out.kept HL12.out
                have hsd := HL12.out.size
                refine wp_appB 34 107 4 32 elemMd (.tmp 102) (.tmp 106) rfl base _ _ _ rfl hAd.r0 w10.heap.size 1 _ rfl HBL rfl ?_ (by decide) ?_ ?_ ?_ ?_
                · intro u hu; simp at hu; rcases hu with rfl | rfl | rfl | rfl <;> rfl
                · unfold maxLen; omega
                · omega
                · omega
                intro g' cap' we hown hgr hat
                have hXe : Ex [g, r0] w6 we := (Ex.of_below HL12.out).trans (Ex.of_grown hgr (fun r e => by rw [HR0.out r e]; simp))
                refine hK _ _ ⟨hXe, ?_⟩
                clear hK K hat
                have HG := Lib.hid hgr
                have HO := Lib.hid hown
                have HAd := Lib.hid hAd
                have hbe := hAd.box.grown hgr (own_neT hAd.r0 hAd.box (by decide))
                have HBe := Lib.hid hbe
                clear hown hgr hAd hbe HBL
                (refine anyB_quiet_at (by kernel_rfl) calm_panic xs_ 1 [10, 11] _ _ (by kernel_rfl) (by decide +kernel) ?_; simp only [pickB, List.filterMap_cons, List.filterMap_nil, List.getElem?_toArray, List.getElem?_cons_zero, List.getElem?_cons_succ]; (repeat (first | ((first | (with_reducible refine quietL_plain rfl (fun K hK => ?_)) | (with_reducible refine quietL_want (by with_unfolding_all rfl) (fun K hK => ?_))); (apply Exists.intro; refine ⟨fun wx hx => ?_, ?_⟩; (· (have hcx := ifs_ex hx); simp [go_sem, *, ↓IntWalk.iteOmega] <;> (first | rfl | exact ⟨rfl, rfl⟩ | fail)); (simp only [Act.put, List.setIfInBounds_toArray, List.set_cons_zero, List.set_cons_succ]; refine hK _ ?_; clear hK K))) | ((with_reducible refine quietL_skip (by with_unfolding_all rfl) ?_); simp only [Act.put, List.setIfInBounds_toArray, List.set_cons_zero, List.set_cons_succ]))); refine quietL_nil ?_)
                refine anyB_one (i := 12) (by kernel_rfl) rfl rfl ?_
                intro wf hbf K hK
                have bg := HBe.out.kept hbf
                have cgf := bg.cell
                have fgf := bg.frozen
                have lgf := bg.lt
                have HN := Lib.hid (HAd.out.app (x := ⟨nm, r2, false, false⟩) (grown_thenK HG.out hbf) (HO.out.kept hbf))
                have HFr9 := Lib.hid ((((HFr.out.below HL12.out).grown HAd.out.r0 HG.out).below hbf).set (k := g) (.inl rfl) 0 (.slice (some ⟨g', 0, none⟩) (y.m.length + 1) cap'))
                clear bg
                go_wp2
                refine ⟨xs_, ?_⟩
                refine anyB_end (by kernel_rfl) ?_
                intro wm hbm
                simp only [Calm]
                have HN2 := Lib.hid (HN.out.kept hbm)
                have HFr2 := Lib.hid (HFr9.out.below hbm)
                clear HN HFr9 HG HO HBe
                go_wp2_with fail
                go_ret
                exact ⟨_, by rw [HYES.out]; rfl, by rw [modS_yes HYES.out, HMV2.out]; exact HN2.out, HFr2.out⟩
          · have hvf : vf = .func (.func 187) #[] #[] := HVF.out.2.2.1 (by rw [← hkw.out]; rw [eq_of_beq hw]; rfl)
            subst hvf
            have HMV2 : Hid (modV ws = ⟨nm, r2, false, true⟩) := Lib.hid (by rw [HMV.out, eq_of_beq hw]; rfl)
            have HC : Hid (∀ W, Calls Tryz.prog 187 #[.agg #[.string nm, .int .i64 r2, .bool false, .bool false]] W fun e w' => e = .returned (.agg #[.string nm, .int .i64 r2, .bool false, .bool true]) ∧ Below W.heap.size W w') := Lib.hid (fun W => st3_any ⟨nm, r2, false, false⟩ W)
            clear hw HVF
            go_wp2_with fail
            (refine wp_region_calm [g, r0] [0, 1, 2, 3, 5, 6] 7 (by kernel_rfl) rfl (by kernel_rfl) (by kernel_rfl) (by kernel_rfl) ?_; simp only [pickB, List.filterMap_cons, List.filterMap_nil, List.getElem?_toArray, List.getElem?_cons_zero, List.getElem?_cons_succ]; (repeat (first | ((first | (with_reducible refine quietL_plain rfl (fun K hK => ?_)) | (with_reducible refine quietL_want (by with_unfolding_all rfl) (fun K hK => ?_))); (apply Exists.intro; refine ⟨fun wx hx => ?_, ?_⟩; (· (have hcx := ifs_ex hx); simp [go_sem, *, ↓IntWalk.iteOmega] <;> (first | rfl | exact ⟨rfl, rfl⟩ | fail)); (simp only [Act.put, List.setIfInBounds_toArray, List.set_cons_zero, List.set_cons_succ]; refine hK _ ?_; clear hK K))) | ((with_reducible refine quietL_skip (by with_unfolding_all rfl) ?_); simp only [Act.put, List.setIfInBounds_toArray, List.set_cons_zero, List.set_cons_succ]))); refine quietL_nil ?_)
            refine anyB_two (i := 4) (j := 7) (by kernel_rfl) rfl rfl rfl rfl ?_ ?_
            · intro w8 hb8 K hK
              have HL8 : Hid (Below w6.heap.size w6 w8) := Lib.hid (hb8)
              have hs8 := HL8.out.size
              have cl := (HAr.out.kept HL8.out).box.cell
              have ll := (HAr.out.kept HL8.out).box.lt
              go_wp2
              refine ⟨xs_, ?_⟩
              clear cl ll
              refine anyB_one (i := 7) (by kernel_rfl) rfl rfl ?_
              intro w9 hb9 K hK
              have HL9 : Hid (Below w6.heap.size w6 w9) := Lib.hid (HL8.out.trans (hb9.mono HL8.out.size))
              have hs9 := HL9.out.size
              go_wp2_with fail
              refine (HC.out _).mono ?_
              rintro e w10 ⟨rfl, hb10⟩
              have HL10 : Hid (Below w6.heap.size w6 w10) := Lib.hid (HL9.out.trans (hb10.mono HL9.out.size))
              have hs10 := HL10.out.size
              go_wp2
              refine ⟨xs_, ?_⟩
              refine anyB_one (i := 8) (by kernel_rfl) rfl rfl ?_
              intro w11 hb11 K hK
              have HL11 : Hid (Below w6.heap.size w6 w11) := Lib.hid (HL10.out.trans (hb11.mono HL10.out.size))
              have hs11 := HL11.out.size
              refine wp_bs 34 107 (.tmp 105) (.agg #[.string nm, .int .i64 r2, .bool false, .bool true]) #[.string nm, .int .i64 r2, .bool false, .bool true] rfl rfl (by kernel_rfl) (hK _ _ ⟨xs_, ?_⟩)
              clear hK K
              have HBL11 : Hid (Blk (w11.alloc (.cells #[.string nm, .int .i64 r2, .bool false, .bool true] 107)) w11.heap.size 107 #[.string nm, .int .i64 r2, .bool false, .bool true]) := Lib.hid (Blk.new _ _ _)
              have HLA11 : Hid (Below w6.heap.size w6 (w11.alloc (.cells #[.string nm, .int .i64 r2, .bool false, .bool true] 107))) := Lib.hid (HL11.out.alloc HL11.out.size _)
              refine anyB_one (i := 9) (by kernel_rfl) rfl rfl ?_
              intro w12 hb12 K hK
              have HBL := HBL11.out.kept hb12
              have HL12 : Hid (Below w6.heap.size w6 w12) := Lib.hid (HLA11.out.trans (hb12.mono HLA11.out.size))
              have hAd := HAr.out.kept HL12.out
              have hsd := HL12.out.size
              refine wp_appB 34 107 4 32 elemMd (.tmp 102) (.tmp 106) rfl base _ _ _ rfl hAd.r0 w11.heap.size 1 _ rfl HBL rfl ?_ (by decide) ?_ ?_ ?_ ?_
              · intro u hu; simp at hu; rcases hu with rfl | rfl | rfl | rfl <;> rfl
              · unfold maxLen; omega
              · omega
              · omega
              intro g' cap' we hown hgr hat
              have hXe : Ex [g, r0] w6 we := (Ex.of_below HL12.out).trans (Ex.of_grown hgr (fun r e => by rw [HR0.out r e]; simp))
              refine hK _ _ ⟨hXe, ?_⟩
              clear hK K hat
              have HG := Lib.hid hgr
              have HO := Lib.hid hown
              have HAd := Lib.hid hAd
              have hbe := hAd.box.grown hgr (own_neT hAd.r0 hAd.box (by decide))
              have HBe := Lib.hid hbe
              clear hown hgr hAd hbe HBL
              (refine anyB_quiet_at (by kernel_rfl) calm_panic xs_ 1 [10, 11] _ _ (by kernel_rfl) (by decide +kernel) ?_; simp only [pickB, List.filterMap_cons, List.filterMap_nil, List.getElem?_toArray, List.getElem?_cons_zero, List.getElem?_cons_succ]; (repeat (first | ((first | (with_reducible refine quietL_plain rfl (fun K hK => ?_)) | (with_reducible refine quietL_want (by with_unfolding_all rfl) (fun K hK => ?_))); (apply Exists.intro; refine ⟨fun wx hx => ?_, ?_⟩; (· (have hcx := ifs_ex hx); simp [go_sem, *, ↓IntWalk.iteOmega] <;> (first | rfl | exact ⟨rfl, rfl⟩ | fail)); (simp only [Act.put, List.setIfInBounds_toArray, List.set_cons_zero, List.set_cons_succ]; refine hK _ ?_; clear hK K))) | ((with_reducible refine quietL_skip (by with_unfolding_all rfl) ?_); simp only [Act.put, List.setIfInBounds_toArray, List.set_cons_zero, List.set_cons_succ]))); refine quietL_nil ?_)
              refine anyB_one (i := 12) (by kernel_rfl) rfl rfl ?_
              intro wf hbf K hK
              have bg := HBe.out.kept hbf
              have cgf := bg.cell
              have fgf := bg.frozen
              have lgf := bg.lt
              have HN := Lib.hid (HAd.out.app (x := ⟨nm, r2, false, true⟩) (grown_thenK HG.out hbf) (HO.out.kept hbf))
              have HFr9 := Lib.hid ((((HFr.out.below HL12.out).grown HAd.out.r0 HG.out).below hbf).set (k := g) (.inl rfl) 0 (.slice (some ⟨g', 0, none⟩) (y.m.length + 1) cap'))
              clear bg
              go_wp2
              refine ⟨xs_, ?_⟩
              refine anyB_end (by kernel_rfl) ?_
              intro wm hbm
              simp only [Calm]
              have HN2 := Lib.hid (HN.out.kept hbm)
              have HFr2 := Lib.hid (HFr9.out.below hbm)
              clear HN HFr9 HG HO HBe
              go_wp2_with fail
              go_ret
              exact ⟨_, by rw [HYES.out]; rfl, by rw [modS_yes HYES.out, HMV2.out]; exact HN2.out, HFr2.out⟩
            · intro w8 hb8 K hK
              have HL8 : Hid (Below w6.heap.size w6 w8) := Lib.hid (hb8)
              have hs8 := HL8.out.size
              go_wp2_with fail
              refine (HC.out _).mono ?_
              rintro e w9 ⟨rfl, hb9⟩
              have HL9 : Hid (Below w6.heap.size w6 w9) := Lib.hid (HL8.out.trans (hb9.mono HL8.out.size))
              have hs9 := HL9.out.size
              go_wp2
              refine ⟨xs_, ?_⟩
              refine anyB_two (i := 4) (j := 8) (by kernel_rfl) rfl rfl rfl rfl ?_ ?_
              · intro w10 hb10 K hK
                have HL10 : Hid (Below w6.heap.size w6 w10) := Lib.hid (HL9.out.trans (hb10.mono HL9.out.size))
                have hs10 := HL10.out.size
                have cl := (HAr.out.kept HL10.out).box.cell
                have ll := (HAr.out.kept HL10.out).box.lt
                go_wp2
                refine ⟨xs_, ?_⟩
                clear cl ll
                refine anyB_one (i := 8) (by kernel_rfl) rfl rfl ?_
                intro w11 hb11 K hK
                have HL11 : Hid (Below w6.heap.size w6 w11) := Lib.hid (HL10.out.trans (hb11.mono HL10.out.size))
                have hs11 := HL11.out.size
                refine wp_bs 34 107 (.tmp 105) (.agg #[.string nm, .int .i64 r2, .bool false, .bool true]) #[.string nm, .int .i64 r2, .bool false, .bool true] rfl rfl (by kernel_rfl) (hK _ _ ⟨xs_, ?_⟩)
                clear hK K
                have HBL11 : Hid (Blk (w11.alloc (.cells #[.string nm, .int .i64 r2, .bool false, .bool true] 107)) w11.heap.size 107 #[.string nm, .int .i64 r2, .bool false, .bool true]) := Lib.hid (Blk.new _ _ _)
                have HLA11 : Hid (Below w6.heap.size w6 (w11.alloc (.cells #[.string nm, .int .i64 r2, .bool false, .bool true] 107))) := Lib.hid (HL11.out.alloc HL11.out.size _)
                refine anyB_one (i := 9) (by kernel_rfl) rfl rfl ?_
                intro w12 hb12 K hK
                have HBL := HBL11.out.kept hb12
                have HL12 : Hid (Below w6.heap.size w6 w12) := Lib.hid (HLA11.out.trans (hb12.mono HLA11.out.size))
                have hAd := HAr.out.kept HL12.out
                have hsd := HL12.out.size
                refine wp_appB 34 107 4 32 elemMd (.tmp 102) (.tmp 106) rfl base _ _ _ rfl hAd.r0 w11.heap.size 1 _ rfl HBL rfl ?_ (by decide) ?_ ?_ ?_ ?_
                · intro u hu; simp at hu; rcases hu with rfl | rfl | rfl | rfl <;> rfl
                · unfold maxLen; omega
                · omega
                · omega
                intro g' cap' we hown hgr hat
                have hXe : Ex [g, r0] w6 we := (Ex.of_below HL12.out).trans (Ex.of_grown hgr (fun r e => by rw [HR0.out r e]; simp))
                refine hK _ _ ⟨hXe, ?_⟩
                clear hK K hat
                have HG := Lib.hid hgr
                have HO := Lib.hid hown
                have HAd := Lib.hid hAd
                have hbe := hAd.box.grown hgr (own_neT hAd.r0 hAd.box (by decide))
                have HBe := Lib.hid hbe
                clear hown hgr hAd hbe HBL
                (refine anyB_quiet_at (by kernel_rfl) calm_panic xs_ 1 [10, 11] _ _ (by kernel_rfl) (by decide +kernel) ?_; simp only [pickB, List.filterMap_cons, List.filterMap_nil, List.getElem?_toArray, List.getElem?_cons_zero, List.getElem?_cons_succ]; (repeat (first | ((first | (with_reducible refine quietL_plain rfl (fun K hK => ?_)) | (with_reducible refine quietL_want (by with_unfolding_all rfl) (fun K hK => ?_))); (apply Exists.intro; refine ⟨fun wx hx => ?_, ?_⟩; (· (have hcx := ifs_ex hx); simp [go_sem, *, ↓IntWalk.iteOmega] <;> (first | rfl | exact ⟨rfl, rfl⟩ | fail)); (simp only [Act.put, List.setIfInBounds_toArray, List.set_cons_zero, List.set_cons_succ]; refine hK _ ?_; clear hK K))) | ((with_reducible refine quietL_skip (by with_unfolding_all rfl) ?_); simp only [Act.put, List.setIfInBounds_toArray, List.set_cons_zero, List.set_cons_succ]))); refine quietL_nil ?_)
                refine anyB_one (i := 12) (by kernel_rfl) rfl rfl ?_
                intro wf hbf K hK
                have bg := HBe.out.kept hbf
                have cgf := bg.cell
                have fgf := bg.frozen
                have lgf := bg.lt
                have HN := Lib.hid (HAd.out.app (x := ⟨nm, r2, false, true⟩) (grown_thenK HG.out hbf) (HO.out.kept hbf))
                have HFr9 := Lib.hid ((((HFr.out.below HL12.out).grown HAd.out.r0 HG.out).below hbf).set (k := g) (.inl rfl) 0 (.slice (some ⟨g', 0, none⟩) (y.m.length + 1) cap'))
                clear bg
                go_wp2
                refine ⟨xs_, ?_⟩
                refine anyB_end (by kernel_rfl) ?_
                intro wm hbm
                simp only [Calm]
                have HN2 := Lib.hid (HN.out.kept hbm)
                have HFr2 := Lib.hid (HFr9.out.below hbm)
                clear HN HFr9 HG HO HBe
                go_wp2_with fail
                go_ret
                exact ⟨_, by rw [HYES.out]; rfl, by rw [modS_yes HYES.out, HMV2.out]; exact HN2.out, HFr2.out⟩
              · intro w10 hb10 K hK
                have HL10 : Hid (Below w6.heap.size w6 w10) := Lib.hid (HL9.out.trans (hb10.mono HL9.out.size))
                have hs10 := HL10.out.size
                refine wp_bs 34 107 (.tmp 105) (.agg #[.string nm, .int .i64 r2, .bool false, .bool true]) #[.string nm, .int .i64 r2, .bool false, .bool true] rfl rfl (by kernel_rfl) (hK _ _ ⟨xs_, ?_⟩)
                clear hK K
                have HBL10 : Hid (Blk (w10.alloc (.cells #[.string nm, .int .i64 r2, .bool false, .bool true] 107)) w10.heap.size 107 #[.string nm, .int .i64 r2, .bool false, .bool true]) := Lib.hid (Blk.new _ _ _)
                have HLA10 : Hid (Below w6.heap.size w6 (w10.alloc (.cells #[.string nm, .int .i64 r2, .bool false, .bool true] 107))) := Lib.hid (HL10.out.alloc HL10.out.size _)
                refine anyB_one (i := 4) (by kernel_rfl) rfl rfl ?_
                intro w11 hb11 K hK
                have HL11 : Hid (Below w6.heap.size w6 w11) := Lib.hid (HLA10.out.trans (hb11.mono HLA10.out.size))
                have hs11 := HL11.out.size
                have cl := (HAr.out.kept HL11.out).box.cell
                have ll := (HAr.out.kept HL11.out).box.lt
                go_wp2
                refine ⟨xs_, ?_⟩
                clear cl ll
                refine anyB_one (i := 9) (by kernel_rfl) rfl rfl ?_
                intro w12 hb12 K hK
                have HBL := (HBL10.out.kept hb11).kept hb12
                have HL12 : Hid (Below w6.heap.size w6 w12) := Lib.hid (HL11.out.trans (hb12.mono HL11.out.size))
                have hAd := HAr.out.kept HL12.out
                have hsd := HL12.out.size
                refine wp_appB 34 107 4 32 elemMd (.tmp 102) (.tmp 106) rfl base _ _ _ rfl hAd.r0 w10.heap.size 1 _ rfl HBL rfl ?_ (by decide) ?_ ?_ ?_ ?_
                · intro u hu; simp at hu; rcases hu with rfl | rfl | rfl | rfl <;> rfl
                · unfold maxLen; omega
                · omega
                · omega
                intro g' cap' we hown hgr hat
                have hXe : Ex [g, r0] w6 we := (Ex.of_below HL12.out).trans (Ex.of_grown hgr (fun r e => by rw [HR0.out r e]; simp))
                refine hK _ _ ⟨hXe, ?_⟩
                clear hK K hat
                have HG := Lib.hid hgr
                have HO := Lib.hid hown
                have HAd := Lib.hid hAd
                have hbe := hAd.box.grown hgr (own_neT hAd.r0 hAd.box (by decide))
                have HBe := Lib.hid hbe
                clear hown hgr hAd hbe HBL
                (refine anyB_quiet_at (by kernel_rfl) calm_panic xs_ 1 [10, 11] _ _ (by kernel_rfl) (by decide +kernel) ?_; simp only [pickB, List.filterMap_cons, List.filterMap_nil, List.getElem?_toArray, List.getElem?_cons_zero, List.getElem?_cons_succ]; (repeat (first | ((first | (with_reducible refine quietL_plain rfl (fun K hK => ?_)) | (with_reducible refine quietL_want (by with_unfolding_all rfl) (fun K hK => ?_))); (apply Exists.intro; refine ⟨fun wx hx => ?_, ?_⟩; (· (have hcx := ifs_ex hx); simp [go_sem, *, ↓IntWalk.iteOmega] <;> (first | rfl | exact ⟨rfl, rfl⟩ | fail)); (simp only [Act.put, List.setIfInBounds_toArray, List.set_cons_zero, List.set_cons_succ]; refine hK _ ?_; clear hK K))) | ((with_reducible refine quietL_skip (by with_unfolding_all rfl) ?_); simp only [Act.put, List.setIfInBounds_toArray, List.set_cons_zero, List.set_cons_succ]))); refine quietL_nil ?_)
                refine anyB_one (i := 12) (by kernel_rfl) rfl rfl ?_
                intro wf hbf K hK
                have bg := HBe.out.kept hbf
                have cgf := bg.cell
                have fgf := bg.frozen
                have lgf := bg.lt
                have HN := Lib.hid (HAd.out.app (x := ⟨nm, r2, false, true⟩) (grown_thenK HG.out hbf) (HO.out.kept hbf))
                have HFr9 := Lib.hid ((((HFr.out.below HL12.out).grown HAd.out.r0 HG.out).below hbf).set (k := g) (.inl rfl) 0 (.slice (some ⟨g', 0, none⟩) (y.m.length + 1) cap'))
                clear bg
                go_wp2
                refine ⟨xs_, ?_⟩
                refine anyB_end (by kernel_rfl) ?_
                intro wm hbm
                simp only [Calm]
                have HN2 := Lib.hid (HN.out.kept hbm)
                have HFr2 := Lib.hid (HFr9.out.below hbm)
                clear HN HFr9 HG HO HBe
                go_wp2_with fail
                go_ret
                exact ⟨_, by rw [HYES.out]; rfl, by rw [modS_yes HYES.out, HMV2.out]; exact HN2.out, HFr2.out⟩

end Go.Proofs.YtjanojmgnpfjeaaGreatDoor
