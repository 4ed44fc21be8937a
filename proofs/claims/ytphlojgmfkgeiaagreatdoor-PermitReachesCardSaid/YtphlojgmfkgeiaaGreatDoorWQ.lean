/- Reference: the first lock of a switch. -/
import Derived.Test.YtphlojgmfkgeiaaGreatDoorKa
import Derived.Test.YtphlojgmfkgeiaaGreatDoorKr
import Derived.Test.YtphlojgmfkgeiaaGreatDoorKo
import Derived.Test.YtphlojgmfkgeiaaGreatDoorKk
import Derived.Test.YtphlojgmfkgeiaaGreatDoorKf
import Derived.Test.YtphlojgmfkgeiaaGreatDoorKS
namespace Go.Proofs.YtphlojgmfkgeiaaGreatDoor
open Go.RowKit Go.Sort Go.Shelf
set_option linter.unusedSimpArgs false
set_option linter.unusedVariables false
attribute [local go_sem] cell_if frozen_if grow_cell
section
variable {B g k : Nat} {t : TypeId} {w w' : World} {cs : Array Value}
theorem Blk.set3 {a0 a1 a2 : Value} (h : Blk w g t #[a0, a1, a2]) (u0 u1 u2 : Value) : Blk (((w.setCell ⟨g, 0, none⟩ u0).setCell ⟨g, 1, none⟩ u1).setCell ⟨g, 2, none⟩ u2) g t #[u0, u1, u2] := ((h.set_ 0 u0).set_ 1 u1).set_ 2 u2
theorem Blk.set5 {a0 a1 a2 a3 a4 : Value} (h : Blk w g t #[a0, a1, a2, a3, a4]) (u0 u1 u2 u3 u4 : Value) : Blk (((((w.setCell ⟨g, 0, none⟩ u0).setCell ⟨g, 1, none⟩ u1).setCell ⟨g, 2, none⟩ u2).setCell ⟨g, 3, none⟩ u3).setCell ⟨g, 4, none⟩ u4) g t #[u0, u1, u2, u3, u4] := ((((h.set_ 0 u0).set_ 1 u1).set_ 2 u2).set_ 3 u3).set_ 4 u4
theorem Blk.far3 (h : Blk w k t cs) (hg : k ≠ g) (u0 u1 u2 : Value) : Blk (((w.setCell ⟨g, 0, none⟩ u0).setCell ⟨g, 1, none⟩ u1).setCell ⟨g, 2, none⟩ u2) k t cs := ((h.far hg u0).far hg u1).far hg u2
theorem Blk.far5 (h : Blk w k t cs) (hg : k ≠ g) (u0 u1 u2 u3 u4 : Value) : Blk (((((w.setCell ⟨g, 0, none⟩ u0).setCell ⟨g, 1, none⟩ u1).setCell ⟨g, 2, none⟩ u2).setCell ⟨g, 3, none⟩ u3).setCell ⟨g, 4, none⟩ u4) k t cs := ((((h.far hg u0).far hg u1).far hg u2).far hg u3).far hg u4
theorem below_set3 (h : Below B w w') (hg : B ≤ g) (u0 u1 u2 : Value) : Below B w (((w'.setCell ⟨g, 0, none⟩ u0).setCell ⟨g, 1, none⟩ u1).setCell ⟨g, 2, none⟩ u2) := ((h.setCell (p := ⟨g, 0, none⟩) hg u0).setCell (p := ⟨g, 1, none⟩) hg u1).setCell (p := ⟨g, 2, none⟩) hg u2
theorem below_set5 (h : Below B w w') (hg : B ≤ g) (u0 u1 u2 u3 u4 : Value) : Below B w (((((w'.setCell ⟨g, 0, none⟩ u0).setCell ⟨g, 1, none⟩ u1).setCell ⟨g, 2, none⟩ u2).setCell ⟨g, 3, none⟩ u3).setCell ⟨g, 4, none⟩ u4) := ((((h.setCell (p := ⟨g, 0, none⟩) hg u0).setCell (p := ⟨g, 1, none⟩) hg u1).setCell (p := ⟨g, 2, none⟩) hg u2).setCell (p := ⟨g, 3, none⟩) hg u3).setCell (p := ⟨g, 4, none⟩) hg u4
end
/-- A yard's rows stay, whatever becomes of blocks that lie elsewhere. -/
theorem row_exX {X : List Nat} {w w' : World} {base size n : Nat} {e : TypeId} {v : Value} {xs : List Value} (h : w.ownsRow base e size v n xs) (hb : Ex X w w') (hX : ∀ x ∈ X, x < base ∨ w.heap.size ≤ x) : w'.ownsRow base e size v n xs := by
  obtain ⟨h1, h2⟩ := h
  refine ⟨h1, ?_⟩
  rcases h2 with h2 | ⟨g, cap, cur, hv, hg, hh, r⟩
  · exact Or.inl h2
  · have hl := (Array.getElem?_eq_some_iff.1 hh).1
    exact Or.inr ⟨g, cap, cur, hv, hg, (hb.block g hl (fun hx => by rcases hX g hx with h | h <;> omega)).trans hh, r⟩
theorem YdR.of_row {X : List Nat} {T0 T1 T2 : TypeId} {base : Nat} {z : Yd} {A0 A1 A2 : Option Addr} {c0 c1 c2 : Nat} {W : World} (h : OwRow T0 T1 T2 base z A0 A1 A2 c0 c1 c2 W) (hX : ∀ x ∈ X, x < base ∨ W.heap.size ≤ x) : YdR X W z A0 A1 A2 z.s.length z.w.length z.p.length := fun _ h' =>
  OwRow.yd ⟨row_exX h.r0 h' hX, row_exX h.r1 h' hX, row_exX h.r2 h' hX⟩
/-- A block that an alloc has laid, ahead of S or from S' on. -/
def AlG (B S S' : Nat) (T : TypeId) (cs : Array Value) (u : Value) (W : World) : Prop := ∃ b, u = .pointer (some ⟨b, 0, none⟩) ∧ Blk W b T cs ∧ B ≤ b ∧ (b < S ∨ S' ≤ b)
theorem AlG.kept {B S S' : Nat} {T : TypeId} {cs : Array Value} (u : Value) (W W' : World) (h : AlG B S S' T cs u W) (hb : Below W.heap.size W W') : AlG B S S' T cs u W' :=
  let ⟨b, e, k, l⟩ := h
  ⟨b, e, k.kept hb, l⟩
theorem AlF.to {B S' : Nat} {T : TypeId} {cs : Array Value} {u : Value} {W W' : World} (h : AlF B T cs u W) (hb : Below W.heap.size W W') : AlG B W.heap.size S' T cs u W' :=
  let ⟨b, e, k, l⟩ := h
  ⟨b, e, k.kept hb, l, .inl k.lt⟩
set_option maxRecDepth 100000 in
set_option maxHeartbeats 8000000 in
theorem rWhy_any (B : Nat) (A0 A1 A2 : Option Addr) (n0 n1 n2 c0 c1 c2 : Nat) (y : Yd) (w : World) (hY : YdAt w B A0 A1 A2 n0 n1 n2 y) (hB : B ≤ w.heap.size) (hP : Parts y) (i : Nat) (hi : i < y.w.length) : Calls Tryz.prog 63 #[.agg #[.slice A0 n0 c0, .slice A1 n1 c1, .slice A2 n2 c2], .int .i64 (i : Int)] w fun e w' => e = .returned (.string (nmL (whyN y i))) ∧ Below w.heap.size w w' := by
  have hl0 := (sec_at hY.hs).1
  have hl1 := (sw_at hY.hw).1
  have hl2 := (pm_at hY.hp).1
  have h8 := hP.n8
  have h8' := hP.w8
  have h8'' := hP.p8
  have HM := Lib.hid (fun W (hW : Below w.heap.size w W) => rMoved_any B A0 A1 A2 n0 n1 n2 c0 c1 c2 y i W (hY.below (hW.mono hB)) (by have := hW.size; omega) (by omega) (by omega) (by omega) hi)
  have HN := Lib.hid (whyN_some y i hi)
  have hi1 : (i : Int) < (n1 : Int) := by omega
  have HSe := Lib.hid (fun W (hW : Below w.heap.size w W) => (Sections_en B A0 A1 A2 n0 n1 n2 c0 c1 c2 y W (hY.below (hW.mono hB)) (by have := hW.size; omega) hP ⟨#[101, 110, 101, 114, 103, 105, 122, 101, 100]⟩ (by decide +kernel) (by decide +kernel) (by decide +kernel) (by decide +kernel)).mono fun _ _ h => h.res)
  obtain ⟨b, o, rfl, hbb, z0, z1, z2, z3, z4⟩ := (sw_at hY.hw).2 i hi
  have hx : (y.w[i]).a ∈ rng (y.mv i).s.length := mem_rng.2 (hP.sa _ (List.getElem_mem hi))
  have hPz := hP.mv i
  have HSz := Lib.hid (fun W D0 D1 D2 d0 d1 d2 (hz : YdAt W W.heap.size D0 D1 D2 (y.mv i).s.length (y.mv i).w.length (y.mv i).p.length (y.mv i)) => (Sections_en W.heap.size D0 D1 D2 _ _ _ d0 d1 d2 (y.mv i) W hz (Nat.le_refl _) hPz ⟨#[101, 110, 101, 114, 103, 105, 122, 101, 100]⟩ (by decide +kernel) (by decide +kernel) (by decide +kernel) (by decide +kernel)).mono fun _ _ h => h.res)
  have HSh := Lib.hid (fun W D0 D1 D2 d0 d1 d2 (hz : YdAt W W.heap.size D0 D1 D2 (y.mv i).s.length (y.mv i).w.length (y.mv i).p.length (y.mv i)) => HasShort_any W.heap.size D0 D1 D2 _ _ _ d0 d1 d2 (y.mv i) W hz (Nat.le_refl _) hPz)
  have HSp := Lib.hid (fun W D0 D1 D2 d0 d1 d2 (hz : YdAt W W.heap.size D0 D1 D2 (y.mv i).s.length (y.mv i).w.length (y.mv i).p.length (y.mv i)) => IsSeparated_any W.heap.size D0 D1 D2 _ _ _ d0 d1 d2 (y.mv i) W hz (Nat.le_refl _) hPz _ hx)
  have HSf := Lib.hid (fun W D0 D1 D2 d0 d1 d2 (hz : YdAt W W.heap.size D0 D1 D2 (y.mv i).s.length (y.mv i).w.length (y.mv i).p.length (y.mv i)) => IsSafe_any W.heap.size D0 D1 D2 _ _ _ d0 d1 d2 (y.mv i) W hz (Nat.le_refl _) hPz)
  have g1 : Hid ((those y.s.length (energB y)).length ≤ 9) := by have := those_len y.s.length (energB y); show _ ≤ _; omega
  have g2 : Hid ((those (y.mv i).s.length (energB (y.mv i))).length ≤ 9) := by have := those_len (y.mv i).s.length (energB (y.mv i)); have := hPz.n8; show _ ≤ _; omega
  have HQ0 : Hid (lkB y (y.mv i) y.w[i] 0 = (y.w[i].k.toList == isolatorL && !sameI (those y.s.length (energB y)) (those (y.mv i).s.length (energB (y.mv i))))) := Lib.hid rfl
  have HQ1 : Hid (lkB y (y.mv i) y.w[i] 1 = shortB (y.mv i)) := Lib.hid rfl
  have HQ2 : Hid (lkB y (y.mv i) y.w[i] 2 = (y.w[i].k.toList == earthL && !y.w[i].c && !sepB (y.mv i) y.w[i].a)) := Lib.hid rfl
  have HQ3 : Hid (lkB y (y.mv i) y.w[i] 3 = openB (y.mv i)) := Lib.hid rfl
  generalize y.mv i = z at *
  generalize y.w[i] = x at *
  obtain ⟨xn, xk, xa, xb, xc⟩ := x
  dsimp only at z0 z1 z2 z3 z4 HQ0 HQ2 HSp
  clear hY hP hPz hx hl0 hl1 hl2 h8 h8' h8''
  go_enter Tryz.func63, Tryz.ntmps63
  go_wp2_with fail
  (refine wp_region_calm [] [0, 1, 2, 3, 4, 5, 6] 5 (by kernel_rfl) rfl (by kernel_rfl) (by kernel_rfl) (by kernel_rfl) ?_; simp only [pickB, List.filterMap_cons, List.filterMap_nil, List.getElem?_toArray, List.getElem?_cons_zero, List.getElem?_cons_succ]; (repeat (first | ((with_reducible refine quietL_plain rfl (fun K hK => ?_)); (apply Exists.intro; refine ⟨fun wx hx => ?_, ?_⟩; (· (have hcx := ifs_ex hx); simp [go_sem, *, ↓IntWalk.iteOmega] <;> (first | rfl | exact ⟨rfl, rfl⟩ | fail)); (simp only [Act.put, List.setIfInBounds_toArray, List.set_cons_zero, List.set_cons_succ]; refine hK _ ?_; clear hK K))) | ((with_reducible refine quietL_skip (by with_unfolding_all rfl) ?_); simp only [Act.put, List.setIfInBounds_toArray, List.set_cons_zero, List.set_cons_succ]) | ((with_reducible refine quietL_want (by with_unfolding_all rfl) (fun K hK => ?_)); (apply Exists.intro; refine ⟨fun wx hx => ?_, ?_⟩; (· (have hcx := ifs_ex hx); simp [go_sem, *, ↓IntWalk.iteOmega] <;> (first | rfl | exact ⟨rfl, rfl⟩ | fail)); (simp only [Act.put, List.setIfInBounds_toArray, List.set_cons_zero, List.set_cons_succ]; refine hK _ ?_; clear hK K))))); refine quietL_nil ?_)
  apply anyB_float2 2 8 9 7 5 6 (AlF (w.heap.size + 1) 68 #[.string ⟨#[]⟩, .string ⟨#[]⟩, .int .i64 0, .int .i64 0, .bool false]) (AlF (w.heap.size + 1) 26 #[.slice none 0 0, .slice none 0 0, .slice none 0 0])
  case hn => rfl
  case hof => rfl
  case hog => rfl
  case hoi => rfl
  case hgf => rfl
  case hgg => rfl
  case hgi => rfl
  case hk => exact AlF.kept
  case hk2 => exact AlF.kept
  case hr => intro p q; cases p <;> cases q <;> decide +kernel
  case hl => rfl
  case ha => first | rfl | simp [Act.put]
  case hL => intro q; cases q <;> rfl
  case hL2 => intro q; cases q <;> rfl
  case hfl =>
    intro u v W hW K hK
    have hsW := hW.size
    simp at hsW
    have h := hK (.pointer (some ⟨W.heap.size, 0, none⟩)) (W.alloc (.cells #[.string ⟨#[]⟩, .string ⟨#[]⟩, .int .i64 0, .int .i64 0, .bool false] 68)) xs_ ⟨_, rfl, Blk.new _ _ _, hsW⟩ bl_
    clear hK
    simp only [Act.put, List.setIfInBounds_toArray, List.set_cons_zero, List.set_cons_succ] at h ⊢
    go_wp2
    exact h
  case hgl =>
    intro u v W hW K hK
    have hsW := hW.size
    simp at hsW
    have h := hK (.pointer (some ⟨W.heap.size, 0, none⟩)) (W.alloc (.cells #[.slice none 0 0, .slice none 0 0, .slice none 0 0] 26)) xs_ ⟨_, rfl, Blk.new _ _ _, hsW⟩ bl_
    clear hK
    simp only [Act.put, List.setIfInBounds_toArray, List.set_cons_zero, List.set_cons_succ] at h ⊢
    go_wp2
    exact h
  case hst =>
    intro p q u v W fuel hf hu hv hW K hK
    have hsW := hW.size
    simp at hsW
    simp only [Act.put, List.setIfInBounds_toArray, List.set_cons_zero, List.set_cons_succ]
    go_wp2_with fail
    refine (HM.out _ bl_).mono ?_
    rintro e W1 ⟨D0, D1, D2, d0, d1, d2, rfl, hO, hb1⟩
    have hs1 := hb1.size
    go_wp2
    refine ⟨xs_, ?_⟩
    show anyB _ _ _ _ _ _ fuel #[true, true, true, true, true, true, true, true, p, q, false, false] _ _
    apply anyB_flw2 (c := 2) (f := 8) (g := 9) (L := fun p q => #[true, true, true, true, true, true, true, true, p, q, false, false]) (F := AlG (w.heap.size + 1) W.heap.size W1.heap.size 68 #[.string ⟨#[]⟩, .string ⟨#[]⟩, .int .i64 0, .int .i64 0, .bool false]) (G := AlG (w.heap.size + 1) W.heap.size W1.heap.size 26 #[.slice none 0 0, .slice none 0 0, .slice none 0 0]) (n := 2) (fuel := fuel) (u := u) (v := v) (W := W1)
    case hof => rfl
    case hog => rfl
    case hgf => rfl
    case hgg => rfl
    case hk => exact AlG.kept
    case hk2 => exact AlG.kept
    case a => cases p <;> cases q <;> decide
    case a => exact hf
    case a => exact fun h => (hu h).to hb1
    case a => exact fun h => (hv h).to hb1
    case a => exact Below.refl _ _
    case hr =>
      intro p q hpq
      clear hu hv hf
      cases p <;> cases q <;> first | (exact absurd hpq (by decide)) | decide +kernel
    case hL => intro q; cases q <;> rfl
    case hL2 => intro q; cases q <;> rfl
    case hfl =>
      intro u v W2 hW2 K hK
      have hsW2 := hW2.size
      have h := hK (.pointer (some ⟨W2.heap.size, 0, none⟩)) (W2.alloc (.cells #[.string ⟨#[]⟩, .string ⟨#[]⟩, .int .i64 0, .int .i64 0, .bool false] 68)) xs_ ⟨_, rfl, Blk.new _ _ _, by omega, .inr hsW2⟩ bl_
      clear hK
      go_wp2
      exact h
    case hgl =>
      intro u v W2 hW2 K hK
      have hsW2 := hW2.size
      have h := hK (.pointer (some ⟨W2.heap.size, 0, none⟩)) (W2.alloc (.cells #[.slice none 0 0, .slice none 0 0, .slice none 0 0] 26)) xs_ ⟨_, rfl, Blk.new _ _ _, by omega, .inr hsW2⟩ bl_
      clear hK
      go_wp2
      exact h
    case hst =>
      clear hu hv hf
      intro u v W2 hu2 hv2 hW2
      obtain ⟨b5, rfl, B5, l5, d5⟩ := hu2
      obtain ⟨b6, rfl, B6, l6, d6⟩ := hv2
      have n56 : b6 ≠ b5 := blk_ne B6 B5 (by decide)
      have HZR := Lib.hid (YdR.of_row (X := [b5, b6]) hO (fun x hx => by simp at hx; rcases hx with rfl | rfl <;> omega))
      have hsW2 := hW2.size
      clear hO
      show anyB _ _ _ _ _ _ 2 #[true, true, true, true, true, true, true, true, true, true, false, false] _ _
      refine anyB_one (i := 10) (by kernel_rfl) rfl rfl ?_
      intro w4 hb4 K hK
      have hs4 := hb4.size
      have k5 := B5.kept hb4
      have k6 := B6.kept hb4
      have c5 := k5.cell
      have f5 := k5.frozen
      have l5' := k5.lt
      have hbw4 := Lib.hid (bl_ : Below w.heap.size w w4)
      have hY4 : Blk w4 w.heap.size 26 #[.slice A0 n0 c0, .slice (some ⟨b, o, none⟩) n1 c1, .slice A2 n2 c2] := bk_
      go_wp2
      refine ⟨xs_, ?_⟩
      refine anyB_one (i := 11) (by kernel_rfl) rfl rfl ?_
      intro w5 hb5 K hK
      have hs5 : w4.heap.size ≤ w5.heap.size := by have := hb5.size; simpa [World.setCell] using this
      have k5' := (k5.set5 (.string xn) (.string xk) (.int .i64 xa) (.int .i64 xb) (.bool xc)).kept hb5
      have k6' := (k6.far5 n56 (.string xn) (.string xk) (.int .i64 xa) (.int .i64 xb) (.bool xc)).kept hb5
      have hY5 := (hY4.far5 (by omega) (.string xn) (.string xk) (.int .i64 xa) (.int .i64 xb) (.bool xc)).kept hb5
      have hbw5 := Lib.hid ((below_set5 hbw4.out (by omega) (.string xn) (.string xk) (.int .i64 xa) (.int .i64 xb) (.bool xc)).trans (hb5.mono (by have := hbw4.out.size; simp [World.setCell]; omega)))
      have c6 := k6'.cell
      have f6 := k6'.frozen
      have l6' := k6'.lt
      clear c5 f5
      go_wp2
      refine ⟨xs_, ?_⟩
      refine anyB_end (by kernel_rfl) ?_
      intro w6 hb6
      have hs6 : w5.heap.size ≤ w6.heap.size := by have := hb6.size; simpa [World.setCell] using this
      have B5 := Lib.hid ((k5'.far3 n56.symm (.slice D0 z.s.length d0) (.slice D1 z.w.length d1) (.slice D2 z.p.length d2)).kept hb6)
      have B6 := Lib.hid ((k6'.set3 (.slice D0 z.s.length d0) (.slice D1 z.w.length d1) (.slice D2 z.p.length d2)).kept hb6)
      have BY := Lib.hid ((hY5.far3 (by omega) (.slice D0 z.s.length d0) (.slice D1 z.w.length d1) (.slice D2 z.p.length d2)).kept hb6)
      have HB6 := Lib.hid ((below_set3 hbw5.out (by omega) (.slice D0 z.s.length d0) (.slice D1 z.w.length d1) (.slice D2 z.p.length d2)).trans (hb6.mono (by have := hbw5.out.size; simp [World.setCell]; omega)))
      have HZ6 := HZR.out w6 xs_
      have hZk' : ∀ w7, Below w6.heap.size w6 w7 → YdAt w7 w7.heap.size D0 D1 D2 z.s.length z.w.length z.p.length z := fun w7 h => (HZ6.below h).more h.size
      have HZk := Lib.hid hZk'
      simp only [Calm]
      clear hY5 hY4 k5 k6 k5' k6' hbw4 hbw5 hb4 hb5 hb6 c6 f6 hZk' HZ6 HZR hb1 hW hW2 z0 z1 z2 z3 z4 HM hi1 hbb
      have c5 := B5.out.cell
      have c6 := B6.out.cell
      have cY := BY.out.cell
      have l5 := B5.out.lt
      have l6 := B6.out.lt
      have lY := BY.out.lt
      cases h0 : (xk.toList == [105, 115, 111, 108, 97, 116, 111, 114]) with
      | false =>
        have HL0 : lkB y z ⟨xn, xk, xa, xb, xc⟩ 0 = false := by rw [HQ0.out]; unfold isolatorL; rw [h0]; rfl
        go_wp2_with fail
        (refine wp_region_calm [] [0, 1, 2, 3, 4, 5, 6, 7, 8, 9, 10] 0 (by kernel_rfl) rfl (by kernel_rfl) (by kernel_rfl) (by kernel_rfl) ?_; simp only [pickB, List.filterMap_cons, List.filterMap_nil, List.getElem?_toArray, List.getElem?_cons_zero, List.getElem?_cons_succ]; (repeat (first | ((with_reducible refine quietL_plain rfl (fun K hK => ?_)); (apply Exists.intro; refine ⟨fun wx hx => ?_, ?_⟩; (· (have hcx := ifs_ex hx); simp [go_sem, *, ↓IntWalk.iteOmega] <;> (first | rfl | exact ⟨rfl, rfl⟩ | fail)); (simp only [Act.put, List.setIfInBounds_toArray, List.set_cons_zero, List.set_cons_succ]; refine hK _ ?_; clear hK K))) | ((with_reducible refine quietL_skip (by with_unfolding_all rfl) ?_); simp only [Act.put, List.setIfInBounds_toArray, List.set_cons_zero, List.set_cons_succ]) | ((with_reducible refine quietL_want (by with_unfolding_all rfl) (fun K hK => ?_)); (apply Exists.intro; refine ⟨fun wx hx => ?_, ?_⟩; (· (have hcx := ifs_ex hx); simp [go_sem, *, ↓IntWalk.iteOmega] <;> (first | rfl | exact ⟨rfl, rfl⟩ | fail)); (simp only [Act.put, List.setIfInBounds_toArray, List.set_cons_zero, List.set_cons_succ]; refine hK _ ?_; clear hK K))))); refine quietL_nil ?_)
        (refine anyB_end (by kernel_rfl) ?_; intro w7 hb7; obtain ⟨hc7, hf7⟩ := ifs_of hb7; have hs7 := hb7.size; (try simp at hs7); simp only [Calm])
        have hZk := HZk.out
        have HZ7 := Lib.hid (hZk w7 hb7)
        have B57 := B5.out.kept hb7
        have B67 := B6.out.kept hb7
        have c57 := B57.cell
        have l57 := B57.lt
        have c67 := B67.cell
        have l67 := B67.lt
        have HB7 := Lib.hid (HB6.out.trans (hb7.mono HB6.out.size))
        clear B57 B67 hb7
        cases h2 : shortB z with
        | true =>
          rw [h2] at HSh
          go_wp2_with fail
          refine (HSh.out _ _ _ _ _ _ _ HZ7.out).mono ?_
          (rintro e w8 ⟨rfl, hb8⟩; have hs8 := hb8.size; (try simp at hs8))
          go_wp2_with fail
          go_ret
          exact ⟨by rw [(HN.out 1 (fun j hj => by obtain rfl : j = 0 := (by omega); exact HL0)).1 (by omega) (HQ1.out.trans h2)]; rfl, by have hz := HB7.out; exact bl_⟩
        | false =>
          rw [h2] at HSh
          have hl1 : lkB y z ⟨xn, xk, xa, xb, xc⟩ 1 = false := HQ1.out.trans h2
          go_wp2_with fail
          refine (HSh.out _ _ _ _ _ _ _ HZ7.out).mono ?_
          (rintro e w8 ⟨rfl, hb8⟩; have hs8 := hb8.size; (try simp at hs8))
          have HZ8 := Lib.hid ((HZ7.out.below hb8).more hb8.size)
          have HB8 := Lib.hid (HB7.out.trans (hb8.mono HB7.out.size))
          obtain ⟨hc8, hf8⟩ := ifs_of hb8; have hs8 := hb8.size; (try simp at hs8)
          clear hb8
          cases h3 : (xk.toList == [101, 97, 114, 116, 104]) with
          | false =>
            have hl2 : lkB y z ⟨xn, xk, xa, xb, xc⟩ 2 = false := by rw [HQ2.out]; unfold earthL; rw [h3]; rfl
            go_wp2_with fail
            cases h5 : openB z with
            | true =>
              rw [h5] at HSf
              refine (HSf.out _ _ _ _ _ _ _ HZ8.out).mono ?_
              (rintro e w10 ⟨rfl, hb10⟩; have hs10 := hb10.size; (try simp at hs10))
              go_wp2_with fail
              go_ret
              exact ⟨by rw [(HN.out 3 (fun j hj => by obtain rfl | rfl | rfl : j = 0 ∨ j = 1 ∨ j = 2 := (by omega); exact HL0; exact hl1; exact hl2)).1 (by omega) (HQ3.out.trans h5)]; rfl, by have hz := HB8.out; exact bl_⟩
            | false =>
              rw [h5] at HSf
              refine (HSf.out _ _ _ _ _ _ _ HZ8.out).mono ?_
              (rintro e w10 ⟨rfl, hb10⟩; have hs10 := hb10.size; (try simp at hs10))
              go_wp2_with fail
              go_ret
              exact ⟨by rw [(HN.out 4 (fun j hj => by obtain rfl | rfl | rfl | rfl : j = 0 ∨ j = 1 ∨ j = 2 ∨ j = 3 := (by omega); exact HL0; exact hl1; exact hl2; exact HQ3.out.trans h5)).2 rfl]; rfl, by have hz := HB8.out; exact bl_⟩
          | true =>
            cases xc with
            | true =>
              have hl2 : lkB y z ⟨xn, xk, xa, xb, true⟩ 2 = false := by rw [HQ2.out]; simp
              go_wp2_with fail
              cases h5 : openB z with
              | true =>
                rw [h5] at HSf
                refine (HSf.out _ _ _ _ _ _ _ HZ8.out).mono ?_
                (rintro e w10 ⟨rfl, hb10⟩; have hs10 := hb10.size; (try simp at hs10))
                go_wp2_with fail
                go_ret
                exact ⟨by rw [(HN.out 3 (fun j hj => by obtain rfl | rfl | rfl : j = 0 ∨ j = 1 ∨ j = 2 := (by omega); exact HL0; exact hl1; exact hl2)).1 (by omega) (HQ3.out.trans h5)]; rfl, by have hz := HB8.out; exact bl_⟩
              | false =>
                rw [h5] at HSf
                refine (HSf.out _ _ _ _ _ _ _ HZ8.out).mono ?_
                (rintro e w10 ⟨rfl, hb10⟩; have hs10 := hb10.size; (try simp at hs10))
                go_wp2_with fail
                go_ret
                exact ⟨by rw [(HN.out 4 (fun j hj => by obtain rfl | rfl | rfl | rfl : j = 0 ∨ j = 1 ∨ j = 2 ∨ j = 3 := (by omega); exact HL0; exact hl1; exact hl2; exact HQ3.out.trans h5)).2 rfl]; rfl, by have hz := HB8.out; exact bl_⟩
            | false =>
              go_wp2_with fail
              cases h4 : sepB z xa with
              | false =>
                rw [h4] at HSp
                refine (HSp.out _ _ _ _ _ _ _ HZ8.out).mono ?_
                (rintro e w9 ⟨rfl, hb9⟩; have hs9 := hb9.size; (try simp at hs9))
                go_wp2_with fail
                go_ret
                exact ⟨by rw [(HN.out 2 (fun j hj => by obtain rfl | rfl : j = 0 ∨ j = 1 := (by omega); exact HL0; exact hl1)).1 (by omega) (by rw [HQ2.out]; unfold earthL; rw [h3, h4]; rfl)]; rfl, by have hz := HB8.out; exact bl_⟩
              | true =>
                rw [h4] at HSp
                have hl2 : lkB y z ⟨xn, xk, xa, xb, false⟩ 2 = false := by rw [HQ2.out, h4]; simp
                refine (HSp.out _ _ _ _ _ _ _ HZ8.out).mono ?_
                (rintro e w9 ⟨rfl, hb9⟩; have hs9 := hb9.size; (try simp at hs9))
                have HZ9 := Lib.hid ((HZ8.out.below hb9).more hb9.size)
                have HB9 := Lib.hid (HB8.out.trans (hb9.mono HB8.out.size))
                obtain ⟨hc9, hf9⟩ := ifs_of hb9; have hs9 := hb9.size; (try simp at hs9)
                clear hb9
                go_wp2_with fail
                cases h5 : openB z with
                | true =>
                  rw [h5] at HSf
                  refine (HSf.out _ _ _ _ _ _ _ HZ9.out).mono ?_
                  (rintro e w10 ⟨rfl, hb10⟩; have hs10 := hb10.size; (try simp at hs10))
                  go_wp2_with fail
                  go_ret
                  exact ⟨by rw [(HN.out 3 (fun j hj => by obtain rfl | rfl | rfl : j = 0 ∨ j = 1 ∨ j = 2 := (by omega); exact HL0; exact hl1; exact hl2)).1 (by omega) (HQ3.out.trans h5)]; rfl, by have hz := HB9.out; exact bl_⟩
                | false =>
                  rw [h5] at HSf
                  refine (HSf.out _ _ _ _ _ _ _ HZ9.out).mono ?_
                  (rintro e w10 ⟨rfl, hb10⟩; have hs10 := hb10.size; (try simp at hs10))
                  go_wp2_with fail
                  go_ret
                  exact ⟨by rw [(HN.out 4 (fun j hj => by obtain rfl | rfl | rfl | rfl : j = 0 ∨ j = 1 ∨ j = 2 ∨ j = 3 := (by omega); exact HL0; exact hl1; exact hl2; exact HQ3.out.trans h5)).2 rfl]; rfl, by have hz := HB9.out; exact bl_⟩
      | true =>
        have HQ0' : Hid (lkB y z ⟨xn, xk, xa, xb, xc⟩ 0 = !sameI (those y.s.length (energB y)) (those z.s.length (energB z))) := by show _ = _; rw [HQ0.out]; unfold isolatorL; rw [h0]; rfl
        clear HQ0
        generalize those y.s.length (energB y) = l1 at *
        generalize those z.s.length (energB z) = l2 at *
        cases h1 : sameI l1 l2 with
        | true =>
          have HL0 : lkB y z ⟨xn, xk, xa, xb, xc⟩ 0 = false := by rw [HQ0'.out, h1]; rfl
          go_wp2_with fail
          (refine wp_region_calm [] [0, 1, 2, 3, 4, 6] 5 (by kernel_rfl) rfl (by kernel_rfl) (by kernel_rfl) (by kernel_rfl) ?_; simp only [pickB, List.filterMap_cons, List.filterMap_nil, List.getElem?_toArray, List.getElem?_cons_zero, List.getElem?_cons_succ]; (repeat (first | ((with_reducible refine quietL_plain rfl (fun K hK => ?_)); (apply Exists.intro; refine ⟨fun wx hx => ?_, ?_⟩; (· (have hcx := ifs_ex hx); simp [go_sem, *, ↓IntWalk.iteOmega] <;> (first | rfl | exact ⟨rfl, rfl⟩ | fail)); (simp only [Act.put, List.setIfInBounds_toArray, List.set_cons_zero, List.set_cons_succ]; refine hK _ ?_; clear hK K))) | ((with_reducible refine quietL_skip (by with_unfolding_all rfl) ?_); simp only [Act.put, List.setIfInBounds_toArray, List.set_cons_zero, List.set_cons_succ]) | ((with_reducible refine quietL_want (by with_unfolding_all rfl) (fun K hK => ?_)); (apply Exists.intro; refine ⟨fun wx hx => ?_, ?_⟩; (· (have hcx := ifs_ex hx); simp [go_sem, *, ↓IntWalk.iteOmega] <;> (first | rfl | exact ⟨rfl, rfl⟩ | fail)); (simp only [Act.put, List.setIfInBounds_toArray, List.set_cons_zero, List.set_cons_succ]; refine hK _ ?_; clear hK K))))); refine quietL_nil ?_)
          (refine anyB_one_want (i := 5) (by kernel_rfl) rfl (by kernel_rfl) ?_; intro wa hba K hK; obtain ⟨hca, hfa⟩ := ifs_of hba; have hsa := hba.size; (try simp at hsa); go_wp2_with fail)
          refine (HSe.out _ (HB6.out.trans (hba.mono HB6.out.size))).mono ?_
          (rintro e wb ⟨Ab, capb, rfl, hrb, hbb⟩; have hsb := hbb.size; have HRb := Lib.hid hrb; clear hrb; (try simp at hsb))
          (go_wp2; refine ⟨xs_, ?_⟩)
          (refine anyB_one_want (i := 7) (by kernel_rfl) rfl (by kernel_rfl) ?_; intro wc hbc K hK; obtain ⟨hcc, hfc⟩ := ifs_of hbc; have hsc := hbc.size; (try simp at hsc); go_wp2_with fail)
          refine (HSz.out _ _ _ _ _ _ _ (HZk.out wc bl_)).mono ?_
          (rintro e wd ⟨Ad, capd, rfl, hrd, hbd⟩; have hsd := hbd.size; have HRd := Lib.hid hrd; clear hrd; (try simp at hsd))
          (go_wp2; refine ⟨xs_, ?_⟩)
          (refine anyB_one_want (i := 8) (by kernel_rfl) rfl (by kernel_rfl) ?_; intro we hbe K hK; obtain ⟨hce, hfe⟩ := ifs_of hbe; have hse := hbe.size; (try simp at hse); go_wp2_with fail)
          have R1 : Reads we we.heap.size 1 Ab l1.length (l1.map (.int .i64)) := (HRb.out.below (bl_ : Below wb.heap.size wb we)).more (by omega)
          have R2 : Reads we we.heap.size 1 Ad l2.length (l2.map (.int .i64)) := (HRd.out.below (bl_ : Below wd.heap.size wd we)).more (by omega)
          refine (SameInts_any we.heap.size we.heap.size Ab Ad l1.length l2.length capb capd l1 l2 we R1 R2 (Nat.le_refl _) (Nat.le_refl _) (by have := g1.out; unfold maxLen; omega) (by have := g2.out; unfold maxLen; omega)).mono ?_
          rw [h1]
          clear R1 R2
          (rintro e wf ⟨rfl, hbf⟩; have hsf := hbf.size; (try simp at hsf))
          (go_wp2; refine ⟨xs_, ?_⟩)
          (refine anyB_one_want (i := 9) (by kernel_rfl) rfl (by kernel_rfl) ?_; intro wg hbg K hK; obtain ⟨hcg, hfg⟩ := ifs_of hbg; have hsg := hbg.size; (try simp at hsg); go_wp2; refine ⟨xs_, ?_⟩)
          (refine anyB_one (i := 10) (by kernel_rfl) rfl rfl ?_; intro wh hbh K hK; obtain ⟨hch, hfh⟩ := ifs_of hbh; have hsh := hbh.size; (try simp at hsh); go_wp2; refine ⟨xs_, ?_⟩)
          (refine anyB_end (by kernel_rfl) ?_; intro w7 hb7; obtain ⟨hc7, hf7⟩ := ifs_of hb7; have hs7 := hb7.size; (try simp at hs7); simp only [Calm])
          replace hb7 : Below w6.heap.size w6 w7 := bl_
          have hZk := HZk.out
          clear hba hbb hbc hbd hbe hbf hbg hbh hc7 hf7
          (try clear hca hfa)
          (try clear hcb hfb)
          (try clear hcc hfc)
          (try clear hcd hfd)
          (try clear hce hfe)
          (try clear hcf hff)
          (try clear hcg hfg)
          (try clear hch hfh)
          have HZ7 := Lib.hid (hZk w7 hb7)
          have B57 := B5.out.kept hb7
          have B67 := B6.out.kept hb7
          have c57 := B57.cell
          have l57 := B57.lt
          have c67 := B67.cell
          have l67 := B67.lt
          have HB7 := Lib.hid (HB6.out.trans (hb7.mono HB6.out.size))
          clear B57 B67 hb7
          cases h2 : shortB z with
          | true =>
            rw [h2] at HSh
            go_wp2_with fail
            refine (HSh.out _ _ _ _ _ _ _ HZ7.out).mono ?_
            (rintro e w8 ⟨rfl, hb8⟩; have hs8 := hb8.size; (try simp at hs8))
            go_wp2_with fail
            go_ret
            exact ⟨by rw [(HN.out 1 (fun j hj => by obtain rfl : j = 0 := (by omega); exact HL0)).1 (by omega) (HQ1.out.trans h2)]; rfl, by have hz := HB7.out; exact bl_⟩
          | false =>
            rw [h2] at HSh
            have hl1 : lkB y z ⟨xn, xk, xa, xb, xc⟩ 1 = false := HQ1.out.trans h2
            go_wp2_with fail
            refine (HSh.out _ _ _ _ _ _ _ HZ7.out).mono ?_
            (rintro e w8 ⟨rfl, hb8⟩; have hs8 := hb8.size; (try simp at hs8))
            have HZ8 := Lib.hid ((HZ7.out.below hb8).more hb8.size)
            have HB8 := Lib.hid (HB7.out.trans (hb8.mono HB7.out.size))
            obtain ⟨hc8, hf8⟩ := ifs_of hb8; have hs8 := hb8.size; (try simp at hs8)
            clear hb8
            cases h3 : (xk.toList == [101, 97, 114, 116, 104]) with
            | false =>
              have hl2 : lkB y z ⟨xn, xk, xa, xb, xc⟩ 2 = false := by rw [HQ2.out]; unfold earthL; rw [h3]; rfl
              go_wp2_with fail
              cases h5 : openB z with
              | true =>
                rw [h5] at HSf
                refine (HSf.out _ _ _ _ _ _ _ HZ8.out).mono ?_
                (rintro e w10 ⟨rfl, hb10⟩; have hs10 := hb10.size; (try simp at hs10))
                go_wp2_with fail
                go_ret
                exact ⟨by rw [(HN.out 3 (fun j hj => by obtain rfl | rfl | rfl : j = 0 ∨ j = 1 ∨ j = 2 := (by omega); exact HL0; exact hl1; exact hl2)).1 (by omega) (HQ3.out.trans h5)]; rfl, by have hz := HB8.out; exact bl_⟩
              | false =>
                rw [h5] at HSf
                refine (HSf.out _ _ _ _ _ _ _ HZ8.out).mono ?_
                (rintro e w10 ⟨rfl, hb10⟩; have hs10 := hb10.size; (try simp at hs10))
                go_wp2_with fail
                go_ret
                exact ⟨by rw [(HN.out 4 (fun j hj => by obtain rfl | rfl | rfl | rfl : j = 0 ∨ j = 1 ∨ j = 2 ∨ j = 3 := (by omega); exact HL0; exact hl1; exact hl2; exact HQ3.out.trans h5)).2 rfl]; rfl, by have hz := HB8.out; exact bl_⟩
            | true =>
              cases xc with
              | true =>
                have hl2 : lkB y z ⟨xn, xk, xa, xb, true⟩ 2 = false := by rw [HQ2.out]; simp
                go_wp2_with fail
                cases h5 : openB z with
                | true =>
                  rw [h5] at HSf
                  refine (HSf.out _ _ _ _ _ _ _ HZ8.out).mono ?_
                  (rintro e w10 ⟨rfl, hb10⟩; have hs10 := hb10.size; (try simp at hs10))
                  go_wp2_with fail
                  go_ret
                  exact ⟨by rw [(HN.out 3 (fun j hj => by obtain rfl | rfl | rfl : j = 0 ∨ j = 1 ∨ j = 2 := (by omega); exact HL0; exact hl1; exact hl2)).1 (by omega) (HQ3.out.trans h5)]; rfl, by have hz := HB8.out; exact bl_⟩
                | false =>
                  rw [h5] at HSf
                  refine (HSf.out _ _ _ _ _ _ _ HZ8.out).mono ?_
                  (rintro e w10 ⟨rfl, hb10⟩; have hs10 := hb10.size; (try simp at hs10))
                  go_wp2_with fail
                  go_ret
                  exact ⟨by rw [(HN.out 4 (fun j hj => by obtain rfl | rfl | rfl | rfl : j = 0 ∨ j = 1 ∨ j = 2 ∨ j = 3 := (by omega); exact HL0; exact hl1; exact hl2; exact HQ3.out.trans h5)).2 rfl]; rfl, by have hz := HB8.out; exact bl_⟩
              | false =>
                go_wp2_with fail
                cases h4 : sepB z xa with
                | false =>
                  rw [h4] at HSp
                  refine (HSp.out _ _ _ _ _ _ _ HZ8.out).mono ?_
                  (rintro e w9 ⟨rfl, hb9⟩; have hs9 := hb9.size; (try simp at hs9))
                  go_wp2_with fail
                  go_ret
                  exact ⟨by rw [(HN.out 2 (fun j hj => by obtain rfl | rfl : j = 0 ∨ j = 1 := (by omega); exact HL0; exact hl1)).1 (by omega) (by rw [HQ2.out]; unfold earthL; rw [h3, h4]; rfl)]; rfl, by have hz := HB8.out; exact bl_⟩
                | true =>
                  rw [h4] at HSp
                  have hl2 : lkB y z ⟨xn, xk, xa, xb, false⟩ 2 = false := by rw [HQ2.out, h4]; simp
                  refine (HSp.out _ _ _ _ _ _ _ HZ8.out).mono ?_
                  (rintro e w9 ⟨rfl, hb9⟩; have hs9 := hb9.size; (try simp at hs9))
                  have HZ9 := Lib.hid ((HZ8.out.below hb9).more hb9.size)
                  have HB9 := Lib.hid (HB8.out.trans (hb9.mono HB8.out.size))
                  obtain ⟨hc9, hf9⟩ := ifs_of hb9; have hs9 := hb9.size; (try simp at hs9)
                  clear hb9
                  go_wp2_with fail
                  cases h5 : openB z with
                  | true =>
                    rw [h5] at HSf
                    refine (HSf.out _ _ _ _ _ _ _ HZ9.out).mono ?_
                    (rintro e w10 ⟨rfl, hb10⟩; have hs10 := hb10.size; (try simp at hs10))
                    go_wp2_with fail
                    go_ret
                    exact ⟨by rw [(HN.out 3 (fun j hj => by obtain rfl | rfl | rfl : j = 0 ∨ j = 1 ∨ j = 2 := (by omega); exact HL0; exact hl1; exact hl2)).1 (by omega) (HQ3.out.trans h5)]; rfl, by have hz := HB9.out; exact bl_⟩
                  | false =>
                    rw [h5] at HSf
                    refine (HSf.out _ _ _ _ _ _ _ HZ9.out).mono ?_
                    (rintro e w10 ⟨rfl, hb10⟩; have hs10 := hb10.size; (try simp at hs10))
                    go_wp2_with fail
                    go_ret
                    exact ⟨by rw [(HN.out 4 (fun j hj => by obtain rfl | rfl | rfl | rfl : j = 0 ∨ j = 1 ∨ j = 2 ∨ j = 3 := (by omega); exact HL0; exact hl1; exact hl2; exact HQ3.out.trans h5)).2 rfl]; rfl, by have hz := HB9.out; exact bl_⟩
        | false =>
          go_wp2_with fail
          (refine wp_region_calm [] [0, 1, 2, 3, 4, 6] 5 (by kernel_rfl) rfl (by kernel_rfl) (by kernel_rfl) (by kernel_rfl) ?_; simp only [pickB, List.filterMap_cons, List.filterMap_nil, List.getElem?_toArray, List.getElem?_cons_zero, List.getElem?_cons_succ]; (repeat (first | ((with_reducible refine quietL_plain rfl (fun K hK => ?_)); (apply Exists.intro; refine ⟨fun wx hx => ?_, ?_⟩; (· (have hcx := ifs_ex hx); simp [go_sem, *, ↓IntWalk.iteOmega] <;> (first | rfl | exact ⟨rfl, rfl⟩ | fail)); (simp only [Act.put, List.setIfInBounds_toArray, List.set_cons_zero, List.set_cons_succ]; refine hK _ ?_; clear hK K))) | ((with_reducible refine quietL_skip (by with_unfolding_all rfl) ?_); simp only [Act.put, List.setIfInBounds_toArray, List.set_cons_zero, List.set_cons_succ]) | ((with_reducible refine quietL_want (by with_unfolding_all rfl) (fun K hK => ?_)); (apply Exists.intro; refine ⟨fun wx hx => ?_, ?_⟩; (· (have hcx := ifs_ex hx); simp [go_sem, *, ↓IntWalk.iteOmega] <;> (first | rfl | exact ⟨rfl, rfl⟩ | fail)); (simp only [Act.put, List.setIfInBounds_toArray, List.set_cons_zero, List.set_cons_succ]; refine hK _ ?_; clear hK K))))); refine quietL_nil ?_)
          (refine anyB_one_want (i := 5) (by kernel_rfl) rfl (by kernel_rfl) ?_; intro wa hba K hK; obtain ⟨hca, hfa⟩ := ifs_of hba; have hsa := hba.size; (try simp at hsa); go_wp2_with fail)
          refine (HSe.out _ (HB6.out.trans (hba.mono HB6.out.size))).mono ?_
          (rintro e wb ⟨Ab, capb, rfl, hrb, hbb⟩; have hsb := hbb.size; have HRb := Lib.hid hrb; clear hrb; (try simp at hsb))
          (go_wp2; refine ⟨xs_, ?_⟩)
          (refine anyB_one_want (i := 7) (by kernel_rfl) rfl (by kernel_rfl) ?_; intro wc hbc K hK; obtain ⟨hcc, hfc⟩ := ifs_of hbc; have hsc := hbc.size; (try simp at hsc); go_wp2_with fail)
          refine (HSz.out _ _ _ _ _ _ _ (HZk.out wc bl_)).mono ?_
          (rintro e wd ⟨Ad, capd, rfl, hrd, hbd⟩; have hsd := hbd.size; have HRd := Lib.hid hrd; clear hrd; (try simp at hsd))
          (go_wp2; refine ⟨xs_, ?_⟩)
          (refine anyB_one_want (i := 8) (by kernel_rfl) rfl (by kernel_rfl) ?_; intro we hbe K hK; obtain ⟨hce, hfe⟩ := ifs_of hbe; have hse := hbe.size; (try simp at hse); go_wp2_with fail)
          have R1 : Reads we we.heap.size 1 Ab l1.length (l1.map (.int .i64)) := (HRb.out.below (bl_ : Below wb.heap.size wb we)).more (by omega)
          have R2 : Reads we we.heap.size 1 Ad l2.length (l2.map (.int .i64)) := (HRd.out.below (bl_ : Below wd.heap.size wd we)).more (by omega)
          refine (SameInts_any we.heap.size we.heap.size Ab Ad l1.length l2.length capb capd l1 l2 we R1 R2 (Nat.le_refl _) (Nat.le_refl _) (by have := g1.out; unfold maxLen; omega) (by have := g2.out; unfold maxLen; omega)).mono ?_
          rw [h1]
          clear R1 R2
          (rintro e wf ⟨rfl, hbf⟩; have hsf := hbf.size; (try simp at hsf))
          (go_wp2; refine ⟨xs_, ?_⟩)
          (refine anyB_one_want (i := 9) (by kernel_rfl) rfl (by kernel_rfl) ?_; intro wg hbg K hK; obtain ⟨hcg, hfg⟩ := ifs_of hbg; have hsg := hbg.size; (try simp at hsg); go_wp2; refine ⟨xs_, ?_⟩)
          (refine anyB_one (i := 10) (by kernel_rfl) rfl rfl ?_; intro wh hbh K hK; obtain ⟨hch, hfh⟩ := ifs_of hbh; have hsh := hbh.size; (try simp at hsh); go_wp2; refine ⟨xs_, ?_⟩)
          (refine anyB_end (by kernel_rfl) ?_; intro w7 hb7; obtain ⟨hc7, hf7⟩ := ifs_of hb7; have hs7 := hb7.size; (try simp at hs7); simp only [Calm]; go_wp2_with fail)
          go_ret
          exact ⟨by rw [(HN.out 0 (fun j hj => absurd hj (by omega))).1 (by omega) (by rw [HQ0'.out, h1]; rfl)]; rfl, by have hz := HB6.out; exact bl_⟩
end Go.Proofs.YtphlojgmfkgeiaaGreatDoor
