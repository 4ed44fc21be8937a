/- Changes of a train and the switchings of all valves. -/
import Derived.Test.YtafnebfchhmgcaaGreatV3
import Derived.Test.YtafnebfchhmgcaaGreatL1
namespace Go.Proofs.YtafnebfchhmgcaaGreat
open Go Go.RowKit Go.Sort Go.Shelf
set_option linter.unusedSimpArgs false
set_option linter.unusedVariables false
attribute [local go_sem] cell_if frozen_if grow_cell
theorem lt12 {k : Nat} (hk : k < 12) : k = 0 ∨ k = 1 ∨ k = 2 ∨ k = 3 ∨ k = 4 ∨ k = 5 ∨ k = 6 ∨ k = 7 ∨ k = 8 ∨ k = 9 ∨ k = 10 ∨ k = 11 := by omega
theorem p12_get (U : Nat → Int) {k : Nat} (hk : k < 12) : (#[.int .i64 (U 0), .int .i64 (U 1), .int .i64 (U 2), .int .i64 (U 3), .int .i64 (U 4), .int .i64 (U 5), .int .i64 (U 6), .int .i64 (U 7), .int .i64 (U 8), .int .i64 (U 9), .int .i64 (U 10), .int .i64 (U 11)] : Array Value)[k]? = some (.int .i64 (U k)) := by
  rcases lt12 hk with rfl | rfl | rfl | rfl | rfl | rfl | rfl | rfl | rfl | rfl | rfl | rfl <;> rfl
theorem p12_at {w : World} {g t : Nat} {U : Nat → Int} (h : Blk w g t #[.int .i64 (U 0), .int .i64 (U 1), .int .i64 (U 2), .int .i64 (U 3), .int .i64 (U 4), .int .i64 (U 5), .int .i64 (U 6), .int .i64 (U 7), .int .i64 (U 8), .int .i64 (U 9), .int .i64 (U 10), .int .i64 (U 11)]) {k : Nat} (hk : k < 12) : w.cell? ⟨g, k, none⟩ = some (.int .i64 (U k)) := (h.cell k).trans (p12_get U hk)
theorem p12_index (U : Nat → Int) {k : Nat} (hk : k < 12) (w : World) : (Instr.index 102 (.agg #[.int .i64 (U 0), .int .i64 (U 1), .int .i64 (U 2), .int .i64 (U 3), .int .i64 (U 4), .int .i64 (U 5), .int .i64 (U 6), .int .i64 (U 7), .int .i64 (U 8), .int .i64 (U 9), .int .i64 (U 10), .int .i64 (U 11)]) (.int .i64 k)).run Tryz.prog w = .ok (.int .i64 (U k)) w := by
  rcases lt12 hk with rfl | rfl | rfl | rfl | rfl | rfl | rfl | rfl | rfl | rfl | rfl | rfl
  · exact (show (Instr.index 102 (.agg #[.int .i64 (U 0), .int .i64 (U 1), .int .i64 (U 2), .int .i64 (U 3), .int .i64 (U 4), .int .i64 (U 5), .int .i64 (U 6), .int .i64 (U 7), .int .i64 (U 8), .int .i64 (U 9), .int .i64 (U 10), .int .i64 (U 11)]) (.int .i64 ((0 : Nat) : Int))).run Tryz.prog w = .ok (.int .i64 (U 0)) w by kernel_rfl)
  · exact (show (Instr.index 102 (.agg #[.int .i64 (U 0), .int .i64 (U 1), .int .i64 (U 2), .int .i64 (U 3), .int .i64 (U 4), .int .i64 (U 5), .int .i64 (U 6), .int .i64 (U 7), .int .i64 (U 8), .int .i64 (U 9), .int .i64 (U 10), .int .i64 (U 11)]) (.int .i64 ((1 : Nat) : Int))).run Tryz.prog w = .ok (.int .i64 (U 1)) w by kernel_rfl)
  · exact (show (Instr.index 102 (.agg #[.int .i64 (U 0), .int .i64 (U 1), .int .i64 (U 2), .int .i64 (U 3), .int .i64 (U 4), .int .i64 (U 5), .int .i64 (U 6), .int .i64 (U 7), .int .i64 (U 8), .int .i64 (U 9), .int .i64 (U 10), .int .i64 (U 11)]) (.int .i64 ((2 : Nat) : Int))).run Tryz.prog w = .ok (.int .i64 (U 2)) w by kernel_rfl)
  · exact (show (Instr.index 102 (.agg #[.int .i64 (U 0), .int .i64 (U 1), .int .i64 (U 2), .int .i64 (U 3), .int .i64 (U 4), .int .i64 (U 5), .int .i64 (U 6), .int .i64 (U 7), .int .i64 (U 8), .int .i64 (U 9), .int .i64 (U 10), .int .i64 (U 11)]) (.int .i64 ((3 : Nat) : Int))).run Tryz.prog w = .ok (.int .i64 (U 3)) w by kernel_rfl)
  · exact (show (Instr.index 102 (.agg #[.int .i64 (U 0), .int .i64 (U 1), .int .i64 (U 2), .int .i64 (U 3), .int .i64 (U 4), .int .i64 (U 5), .int .i64 (U 6), .int .i64 (U 7), .int .i64 (U 8), .int .i64 (U 9), .int .i64 (U 10), .int .i64 (U 11)]) (.int .i64 ((4 : Nat) : Int))).run Tryz.prog w = .ok (.int .i64 (U 4)) w by kernel_rfl)
  · exact (show (Instr.index 102 (.agg #[.int .i64 (U 0), .int .i64 (U 1), .int .i64 (U 2), .int .i64 (U 3), .int .i64 (U 4), .int .i64 (U 5), .int .i64 (U 6), .int .i64 (U 7), .int .i64 (U 8), .int .i64 (U 9), .int .i64 (U 10), .int .i64 (U 11)]) (.int .i64 ((5 : Nat) : Int))).run Tryz.prog w = .ok (.int .i64 (U 5)) w by kernel_rfl)
  · exact (show (Instr.index 102 (.agg #[.int .i64 (U 0), .int .i64 (U 1), .int .i64 (U 2), .int .i64 (U 3), .int .i64 (U 4), .int .i64 (U 5), .int .i64 (U 6), .int .i64 (U 7), .int .i64 (U 8), .int .i64 (U 9), .int .i64 (U 10), .int .i64 (U 11)]) (.int .i64 ((6 : Nat) : Int))).run Tryz.prog w = .ok (.int .i64 (U 6)) w by kernel_rfl)
  · exact (show (Instr.index 102 (.agg #[.int .i64 (U 0), .int .i64 (U 1), .int .i64 (U 2), .int .i64 (U 3), .int .i64 (U 4), .int .i64 (U 5), .int .i64 (U 6), .int .i64 (U 7), .int .i64 (U 8), .int .i64 (U 9), .int .i64 (U 10), .int .i64 (U 11)]) (.int .i64 ((7 : Nat) : Int))).run Tryz.prog w = .ok (.int .i64 (U 7)) w by kernel_rfl)
  · exact (show (Instr.index 102 (.agg #[.int .i64 (U 0), .int .i64 (U 1), .int .i64 (U 2), .int .i64 (U 3), .int .i64 (U 4), .int .i64 (U 5), .int .i64 (U 6), .int .i64 (U 7), .int .i64 (U 8), .int .i64 (U 9), .int .i64 (U 10), .int .i64 (U 11)]) (.int .i64 ((8 : Nat) : Int))).run Tryz.prog w = .ok (.int .i64 (U 8)) w by kernel_rfl)
  · exact (show (Instr.index 102 (.agg #[.int .i64 (U 0), .int .i64 (U 1), .int .i64 (U 2), .int .i64 (U 3), .int .i64 (U 4), .int .i64 (U 5), .int .i64 (U 6), .int .i64 (U 7), .int .i64 (U 8), .int .i64 (U 9), .int .i64 (U 10), .int .i64 (U 11)]) (.int .i64 ((9 : Nat) : Int))).run Tryz.prog w = .ok (.int .i64 (U 9)) w by kernel_rfl)
  · exact (show (Instr.index 102 (.agg #[.int .i64 (U 0), .int .i64 (U 1), .int .i64 (U 2), .int .i64 (U 3), .int .i64 (U 4), .int .i64 (U 5), .int .i64 (U 6), .int .i64 (U 7), .int .i64 (U 8), .int .i64 (U 9), .int .i64 (U 10), .int .i64 (U 11)]) (.int .i64 ((10 : Nat) : Int))).run Tryz.prog w = .ok (.int .i64 (U 10)) w by kernel_rfl)
  · exact (show (Instr.index 102 (.agg #[.int .i64 (U 0), .int .i64 (U 1), .int .i64 (U 2), .int .i64 (U 3), .int .i64 (U 4), .int .i64 (U 5), .int .i64 (U 6), .int .i64 (U 7), .int .i64 (U 8), .int .i64 (U 9), .int .i64 (U 10), .int .i64 (U 11)]) (.int .i64 ((11 : Nat) : Int))).run Tryz.prog w = .ok (.int .i64 (U 11)) w by kernel_rfl)
theorem p12_set {w : World} {g t : Nat} {U V : Nat → Int} {k : Nat} (hk : k < 12) (h : Blk w g t #[.int .i64 (U 0), .int .i64 (U 1), .int .i64 (U 2), .int .i64 (U 3), .int .i64 (U 4), .int .i64 (U 5), .int .i64 (U 6), .int .i64 (U 7), .int .i64 (U 8), .int .i64 (U 9), .int .i64 (U 10), .int .i64 (U 11)]) (hV : ∀ j, j < 12 → V j = if j = k then V k else U j) : Blk (w.setCell ⟨g, k, none⟩ (.int .i64 (V k))) g t #[.int .i64 (V 0), .int .i64 (V 1), .int .i64 (V 2), .int .i64 (V 3), .int .i64 (V 4), .int .i64 (V 5), .int .i64 (V 6), .int .i64 (V 7), .int .i64 (V 8), .int .i64 (V 9), .int .i64 (V 10), .int .i64 (V 11)] := by
  have h2 := h.set_ k (.int .i64 (V k))
  have e := fun j hj => hV j hj
  have e0 := hV 0 (by omega)
  have e1 := hV 1 (by omega)
  have e2 := hV 2 (by omega)
  have e3 := hV 3 (by omega)
  have e4 := hV 4 (by omega)
  have e5 := hV 5 (by omega)
  have e6 := hV 6 (by omega)
  have e7 := hV 7 (by omega)
  have e8 := hV 8 (by omega)
  have e9 := hV 9 (by omega)
  have e10 := hV 10 (by omega)
  have e11 := hV 11 (by omega)
  clear hV h e
  rcases lt12 hk with rfl | rfl | rfl | rfl | rfl | rfl | rfl | rfl | rfl | rfl | rfl | rfl
  · rw [e1, e2, e3, e4, e5, e6, e7, e8, e9, e10, e11]; exact h2
  · rw [e0, e2, e3, e4, e5, e6, e7, e8, e9, e10, e11]; exact h2
  · rw [e0, e1, e3, e4, e5, e6, e7, e8, e9, e10, e11]; exact h2
  · rw [e0, e1, e2, e4, e5, e6, e7, e8, e9, e10, e11]; exact h2
  · rw [e0, e1, e2, e3, e5, e6, e7, e8, e9, e10, e11]; exact h2
  · rw [e0, e1, e2, e3, e4, e6, e7, e8, e9, e10, e11]; exact h2
  · rw [e0, e1, e2, e3, e4, e5, e7, e8, e9, e10, e11]; exact h2
  · rw [e0, e1, e2, e3, e4, e5, e6, e8, e9, e10, e11]; exact h2
  · rw [e0, e1, e2, e3, e4, e5, e6, e7, e9, e10, e11]; exact h2
  · rw [e0, e1, e2, e3, e4, e5, e6, e7, e8, e10, e11]; exact h2
  · rw [e0, e1, e2, e3, e4, e5, e6, e7, e8, e9, e11]; exact h2
  · rw [e0, e1, e2, e3, e4, e5, e6, e7, e8, e9, e10]; exact h2
theorem ex_grown {X : List Nat} {a b c : World} {o : Option Nat} (h : Below a.heap.size a b) (hg : b.grownBy c o) (hX : ∀ k, o = some k → k ∈ X) : Ex X a c :=
  ⟨hg.os.trans h.os, hg.tape.trans h.tape, hg.output.trans h.output, Nat.le_trans h.size hg.size, fun k hk hn => (hg.block k (Nat.lt_of_lt_of_le hk h.size) (fun e => hn (hX k e.symm))).trans (h.block k hk)⟩
theorem low_grown {B : Nat} {a b c : World} {o : Option Nat} (h : Below B a b) (hB : B ≤ b.heap.size) (hg : b.grownBy c o) (hX : ∀ k, o = some k → B ≤ k) : Below B a c :=
  h.trans ((Below.refl _ _).grown hg hB (fun k e => hX k e))
/-- The changes of a train. -/
def xrL : List Od → List Nat
  | a :: b :: r => (b.c.toNat ^^^ a.c.toNat) :: xrL (b :: r)
  | _ => []
theorem xrL_snoc : ∀ (l : List Od) (a b : Od), xrL (l ++ [a, b]) = xrL (l ++ [a]) ++ [b.c.toNat ^^^ a.c.toNat]
  | [], a, b => rfl
  | [x], a, b => rfl
  | x :: y :: r, a, b => by
    have ih := xrL_snoc (y :: r) a b
    show _ :: xrL ((y :: r) ++ [a, b]) = (_ :: xrL ((y :: r) ++ [a])) ++ _
    rw [ih]
    rfl
theorem xrL_take (l : List Od) {j : Nat} (hj : j + 1 < l.length) : xrL (l.take (j + 1 + 1)) = xrL (l.take (j + 1)) ++ [l[j + 1].c.toNat ^^^ l[j].c.toNat] := by
  have e1 : l.take (j + 1 + 1) = l.take j ++ [l[j], l[j + 1]] := by
    rw [List.take_succ_eq_append_getElem hj, List.take_succ_eq_append_getElem (by omega), List.append_assoc]
    rfl
  have e2 : l.take (j + 1) = l.take j ++ [l[j]] := List.take_succ_eq_append_getElem (by omega)
  rw [e1, e2]
  exact xrL_snoc _ _ _
theorem xrL_len : ∀ l : List Od, (xrL l).length ≤ l.length
  | [] => Nat.le_refl _
  | [_] => Nat.zero_le _
  | a :: b :: r => by
    have ih := xrL_len (b :: r)
    show (xrL (b :: r)).length + 1 ≤ _
    rw [List.length_cons]
    omega
theorem xrL_lt : ∀ {l : List Od}, (∀ x ∈ l, 0 ≤ x.c ∧ x.c ≤ 4095) → ∀ z ∈ xrL l, z < 2 ^ 12
  | [], _, z, hz => by cases hz
  | [_], _, z, hz => by cases hz
  | a :: b :: r, h, z, hz => by
    have h1 := h a (by simp)
    have h2 := h b (by simp)
    rcases List.mem_cons.1 hz with rfl | hz
    · exact Nat.xor_lt_two_pow (by omega) (by omega)
    · exact xrL_lt (fun x hx => h x (List.mem_cons_of_mem _ hx)) z hz
theorem xor_of {x y : Int} (hx : 0 ≤ x ∧ x ≤ 4095) (hy : 0 ≤ y ∧ y ≤ 4095) : bits .xor .i64 x y = ((x.toNat ^^^ y.toNat : Nat) : Int) := by
  obtain ⟨a, rfl⟩ := Int.eq_ofNat_of_zero_le hx.1
  obtain ⟨b, rfl⟩ := Int.eq_ofNat_of_zero_le hy.1
  exact bo_xor (by omega) (by omega)
def ChRes (w : World) (xs : List Nat) (e : Ending) (w' : World) : Prop := ∃ A c, e = .returned (.slice A xs.length c) ∧ Reads w' w'.heap.size 1 A xs.length (xs.map fun (x : Nat) => Value.int .i64 (x : Int)) ∧ (∀ b o s, A = some ⟨b, o, s⟩ → w.heap.size ≤ b) ∧ Below w.heap.size w w'
set_option maxRecDepth 100000 in
set_option maxHeartbeats 4000000 in
theorem changes_any (B : Nat) (A : Option Addr) (n c : Nat) (l : List Od) (w : World) (hr : Reads w B 2 A n (ods l)) (hB : B ≤ w.heap.size) (hn : n ≤ 256) (hp : ∀ x ∈ l, 0 ≤ x.c ∧ x.c ≤ 4095) :
    Calls Tryz.prog 145 #[.slice A n c] w (ChRes w (xrL l)) := by
  obtain ⟨hl, ha⟩ := od_at hr
  have HL := Lib.hid hl
  have HA := Lib.hid ha
  have HP := Lib.hid hp
  clear hl ha hr hp
  go_enter Tryz.func145, Tryz.ntmps145
  go_wp2_with fail
  go_loopw [3, 4] (fun s3 s4 wr => ∃ (j : Nat) (v : Value), j ≤ n ∧ s4 = .int .i64 ((j : Int) + 1) ∧ s3 = v ∧ wr.ownsRow w.heap.size 3 1 v (xrL (l.take (j + 1))).length ((xrL (l.take (j + 1))).map fun (x : Nat) => Value.int .i64 (x : Int)) ∧ Below w.heap.size w wr) (fun _ s4 _ => n + 1 - (intOf s4).toNat)
  case atStart =>
    refine ⟨0, _, by omega, rfl, rfl, ?_, Below.refl _ _⟩
    have e0 : xrL (l.take (0 + 1)) = [] := by
      match l with
      | [] => rfl
      | x :: r => rfl
    rw [e0]
    exact World.ownsRow_nil _ _ _ _
  case round =>
    obtain ⟨j, v, hj, rfl, rfl, ho, hb⟩ := hrel
    have HO := Lib.hid ho
    have HB := Lib.hid hb
    have hs := hb.size
    clear ho hb
    by_cases hlt : j + 1 < n
    · have hjl : j + 1 < l.length := by rw [HL.out]; exact hlt
      have hdj : decide ((j : Int) + 1 < (n : Int)) = true := by simp; omega
      obtain ⟨b, o, eA, hbb, _, z1⟩ := HA.out j (by omega)
      obtain ⟨b', o', eA', _, _, y1⟩ := HA.out (j + 1) hjl
      subst eA
      cases eA'
      have kb : ∀ i, wr.cell? ⟨b, i, none⟩ = w.cell? ⟨b, i, none⟩ := fun i => HB.out.cell (p := ⟨b, i, none⟩) (by simp; omega)
      rw [← kb] at z1 y1
      clear kb
      have hbw : b < wr.heap.size := by omega
      have HT := Lib.hid (xrL_take l hjl)
      have hlen : (xrL (l.take (j + 1))).length ≤ 257 := by
        have := xrL_len (l.take (j + 1))
        rw [List.length_take] at this
        omega
      have hx := xor_of (HP.out _ (List.getElem_mem hjl)) (HP.out _ (List.getElem_mem (show j < l.length by omega)))
      generalize l[j].c = p at *
      generalize l[j + 1].c = q at *
      generalize xrL (l.take (j + 1)) = L at *
      generalize q.toNat ^^^ p.toNat = z at *
      have hjI : (0 : Int) ≤ (j : Int) := by omega
      have hwj : IntKind.i64.wrap (j : Int) = (j : Int) := wrap_nat (by omega)
      have hwj1 : IntKind.i64.wrap ((j : Int) + 1) = (j : Int) + 1 := by have := wrap_nat (n := j + 1) (by omega); simpa using this
      rcases HO.out.2 with ⟨rfl, hL0⟩ | ⟨gv, cv, curv, rfl, hgv1, hgv2, _⟩
      · skip
        as_aux_lemma =>
          clear hL0
          go_wp2_with fail
          (refine wp_region_calm [] [0, 1, 2, 3, 4, 5, 6, 7, 8, 9, 10, 11, 12] 3 (by kernel_rfl) rfl (by kernel_rfl) (by kernel_rfl) (by kernel_rfl) ?_; simp only [pickB, List.filterMap_cons, List.filterMap_nil, List.getElem?_toArray, List.getElem?_cons_zero, List.getElem?_cons_succ]; (repeat (first | ((first | (with_reducible refine quietL_plain rfl (fun K hK => ?_)) | (with_reducible refine quietL_want (by with_unfolding_all rfl) (fun K hK => ?_))); (apply Exists.intro; refine ⟨fun wx hx => ?_, ?_⟩; (· (have hcx := ifs_ex hx); simp [go_sem, *, ↓IntWalk.iteOmega] <;> (first | rfl | exact ⟨rfl, rfl⟩ | fail)); (simp only [Act.put, List.setIfInBounds_toArray, List.set_cons_zero, List.set_cons_succ]; refine hK _ ?_; clear hK K))) | ((with_reducible refine quietL_skip (by with_unfolding_all rfl) ?_); simp only [Act.put, List.setIfInBounds_toArray, List.set_cons_zero, List.set_cons_succ]))); refine quietL_nil ?_)
          refine anyB_one (i := 13) (by kernel_rfl) rfl rfl ?_
          intro w1 hb1 K hK
          have hs1 := hb1.size
          have HP1 := Lib.hid (hb1.trans (((Below.refl _ _).alloc (Nat.le_refl _) (.cells #[.int .i64 (z : Int)] 3)).mono hs1))
          have HF := Lib.hid (Blk.new w1 3 #[.int .i64 (z : Int)])
          go_wp2
          refine ⟨Ex.of_below HP1.out, ?_⟩
          clear hb1
          refine anyB_one (i := 14) (by kernel_rfl) rfl rfl ?_
          intro w2 hb2 K hK
          have HP2 := Lib.hid (HP1.out.trans (hb2.mono HP1.out.size))
          have HF2 := Lib.hid (HF.out.kept hb2)
          have HO2 := Lib.hid (own_kept HO.out HP2.out)
          have hs2 := HP2.out.size
          clear hb2
          refine wp_appB 73 3 1 8 elemInt (.tmp 11) (.tmp 24) rfl w.heap.size (.slice none 0 0) L.length _ rfl HO2.out w1.heap.size 1 #[.int .i64 (z : Int)] rfl HF2.out rfl (by intro u hu; simp at hu; subst hu; rfl) (by decide) (by unfold maxLen; omega) (by omega) (by omega) ?_
          intro g' cap' w3 hown hg hl
          have HO3 := Lib.hid hown
          have hb3 : Ex [] wr w3 := ex_grown HP2.out hg (by intro k hk; first | (simp [Value.ownBlock] at hk; done) | (simp [Value.ownBlock] at hk; simp [hk]))
          have hb3' : Below w.heap.size w w3 := HB.out.trans (low_grown (HP2.out.mono hs) (by omega) hg (by intro k hk; first | (simp [Value.ownBlock] at hk; done) | (simp [Value.ownBlock] at hk; omega)))
          have HX3 := Lib.hid hb3
          have HB3 := Lib.hid hb3'
          clear hown hg hl hb3 hb3'
          refine hK _ _ ⟨HX3.out, ?_⟩
          clear hK K
          refine anyB_one (i := 15) (by kernel_rfl) rfl rfl ?_
          intro w4 hb4 K hK
          have HX4 := Lib.hid (HX3.out.grown hb4)
          have HO4 := Lib.hid (Own.kept HO3.out hb4)
          have HB4 := Lib.hid (HB3.out.trans (hb4.mono HB3.out.size))
          clear hb4
          go_wp2
          refine ⟨HX4.out, ?_⟩
          refine anyB_end (by kernel_rfl) ?_
          intro w5 hb5
          simp only [Calm]
          have HO5 := Lib.hid (Own.kept HO4.out hb5)
          have HB5 := Lib.hid (HB4.out.trans (hb5.mono HB4.out.size))
          clear hb5
          go_wp2_with fail
          go_roundw
          case rel => exact ⟨j + 1, _, by omega, by go_num, rfl, by rw [HT.out, List.length_append, List.map_append]; exact HO5.out, HB5.out⟩
          case measure => simp [intOf]; omega
      · skip
        as_aux_lemma =>
          have hgvl : gv < wr.heap.size := (Array.getElem?_eq_some_iff.1 hgv2).1
          have hnb : b ≠ gv := by omega
          clear hgv2
          go_wp2_with fail
          (refine wp_region_calm [gv] [0, 1, 2, 3, 4, 5, 6, 7, 8, 9, 10, 11, 12] 3 (by kernel_rfl) rfl (by kernel_rfl) (by kernel_rfl) (by kernel_rfl) ?_; simp only [pickB, List.filterMap_cons, List.filterMap_nil, List.getElem?_toArray, List.getElem?_cons_zero, List.getElem?_cons_succ]; (repeat (first | ((first | (with_reducible refine quietL_plain rfl (fun K hK => ?_)) | (with_reducible refine quietL_want (by with_unfolding_all rfl) (fun K hK => ?_))); (apply Exists.intro; refine ⟨fun wx hx => ?_, ?_⟩; (· (have hcx := ifs_ex hx); simp [go_sem, *, ↓IntWalk.iteOmega] <;> (first | rfl | exact ⟨rfl, rfl⟩ | fail)); (simp only [Act.put, List.setIfInBounds_toArray, List.set_cons_zero, List.set_cons_succ]; refine hK _ ?_; clear hK K))) | ((with_reducible refine quietL_skip (by with_unfolding_all rfl) ?_); simp only [Act.put, List.setIfInBounds_toArray, List.set_cons_zero, List.set_cons_succ]))); refine quietL_nil ?_)
          refine anyB_one (i := 13) (by kernel_rfl) rfl rfl ?_
          intro w1 hb1 K hK
          have hs1 := hb1.size
          have HP1 := Lib.hid (hb1.trans (((Below.refl _ _).alloc (Nat.le_refl _) (.cells #[.int .i64 (z : Int)] 3)).mono hs1))
          have HF := Lib.hid (Blk.new w1 3 #[.int .i64 (z : Int)])
          go_wp2
          refine ⟨Ex.of_below HP1.out, ?_⟩
          clear hb1
          refine anyB_one (i := 14) (by kernel_rfl) rfl rfl ?_
          intro w2 hb2 K hK
          have HP2 := Lib.hid (HP1.out.trans (hb2.mono HP1.out.size))
          have HF2 := Lib.hid (HF.out.kept hb2)
          have HO2 := Lib.hid (own_kept HO.out HP2.out)
          have hs2 := HP2.out.size
          clear hb2
          refine wp_appB 73 3 1 8 elemInt (.tmp 11) (.tmp 24) rfl w.heap.size (.slice (some ⟨gv, 0, none⟩) L.length cv) L.length _ rfl HO2.out w1.heap.size 1 #[.int .i64 (z : Int)] rfl HF2.out rfl (by intro u hu; simp at hu; subst hu; rfl) (by decide) (by unfold maxLen; omega) (by omega) (by omega) ?_
          intro g' cap' w3 hown hg hl
          have HO3 := Lib.hid hown
          have hb3 : Ex [gv] wr w3 := ex_grown HP2.out hg (by intro k hk; first | (simp [Value.ownBlock] at hk; done) | (simp [Value.ownBlock] at hk; simp [hk]))
          have hb3' : Below w.heap.size w w3 := HB.out.trans (low_grown (HP2.out.mono hs) (by omega) hg (by intro k hk; first | (simp [Value.ownBlock] at hk; done) | (simp [Value.ownBlock] at hk; omega)))
          have HX3 := Lib.hid hb3
          have HB3 := Lib.hid hb3'
          clear hown hg hl hb3 hb3'
          refine hK _ _ ⟨HX3.out, ?_⟩
          clear hK K
          refine anyB_one (i := 15) (by kernel_rfl) rfl rfl ?_
          intro w4 hb4 K hK
          have HX4 := Lib.hid (HX3.out.grown hb4)
          have HO4 := Lib.hid (Own.kept HO3.out hb4)
          have HB4 := Lib.hid (HB3.out.trans (hb4.mono HB3.out.size))
          clear hb4
          go_wp2
          refine ⟨HX4.out, ?_⟩
          refine anyB_end (by kernel_rfl) ?_
          intro w5 hb5
          simp only [Calm]
          have HO5 := Lib.hid (Own.kept HO4.out hb5)
          have HB5 := Lib.hid (HB4.out.trans (hb5.mono HB4.out.size))
          clear hb5
          go_wp2_with fail
          go_roundw
          case rel => exact ⟨j + 1, _, by omega, by go_num, rfl, by rw [HT.out, List.length_append, List.map_append]; exact HO5.out, HB5.out⟩
          case measure => simp [intOf]; omega
    · have hle : l.length ≤ j + 1 := by rw [HL.out]; omega
      have h6 := HO.out
      rw [List.take_of_length_le hle] at h6
      obtain ⟨A6, c6, e6, _, _, hr6⟩ := own_form h6
      have hb6 : ∀ b o s, A6 = some ⟨b, o, s⟩ → w.heap.size ≤ b := fun b o s e => by
        rcases h6.2 with ⟨e7, _⟩ | ⟨g7, c7, _, e7, hg7, _⟩
        · rw [e6] at e7
          injection e7 with e8 _ _
          rw [e8] at e
          cases e
        · rw [e6] at e7
          injection e7 with e8 _ _
          rw [e8] at e
          cases e
          exact hg7
      subst e6
      have HR := Lib.hid hr6
      have HB6 := Lib.hid hb6
      clear hb6
      have hdj : decide ((j : Int) + 1 < (n : Int)) = false := by simp; omega
      clear h6 hr6
      go_wp2_with fail
      go_ret
      exact ⟨A6, c6, rfl, HR.out, HB6.out, HB.out⟩
/-- A bit as a number. -/
def bitI (x v : Nat) : Int := if x.testBit v then 1 else 0
theorem bit_of {x v : Nat} (hx : x < 2 ^ 12) : bits .and .i64 ((x : Int) / 2 ^ v) 1 = bitI x v := by
  have e : ((x : Int) / 2 ^ v) = ((x / 2 ^ v : Nat) : Int) := by simp
  have hlt : x / 2 ^ v < 2 ^ 63 := Nat.lt_of_le_of_lt (Nat.div_le_self _ _) (by omega)
  rw [e]
  refine (bo_and (x := x / 2 ^ v) (y := 1) hlt (by decide)).trans ?_
  rw [Nat.and_one_is_mod]
  unfold bitI
  rw [Nat.testBit_eq_decide_div_mod_eq]
  by_cases h : x / 2 ^ v % 2 = 1
  · simp [h]
  · have : x / 2 ^ v % 2 = 0 := by omega
    simp [this]
/-- The switchings of a valve. -/
def cntB (xs : List Nat) (v : Nat) : Int := (xs.map fun x => bitI x v).foldl (· + ·) 0
theorem cntB_snoc (xs : List Nat) (x v : Nat) : cntB (xs ++ [x]) v = cntB xs v + bitI x v := by
  unfold cntB
  rw [List.map_append, List.foldl_append]
  rfl
theorem bitI_bd (x v : Nat) : 0 ≤ bitI x v ∧ bitI x v ≤ 1 := by unfold bitI; split <;> omega
theorem cntB_bd : ∀ (n : Nat) (xs : List Nat) (v : Nat), xs.length = n → 0 ≤ cntB xs v ∧ cntB xs v ≤ (n : Int)
  | 0, xs, v, h => by
    obtain rfl : xs = [] := List.eq_nil_of_length_eq_zero h
    exact ⟨Int.le_refl _, Int.le_refl _⟩
  | n + 1, xs, v, h => by
    have hne : xs ≠ [] := fun e => by rw [e] at h; cases h
    have e := List.dropLast_concat_getLast hne
    have ih := cntB_bd n xs.dropLast v (by rw [List.length_dropLast]; omega)
    have hb := bitI_bd (xs.getLast hne) v
    rw [← e, cntB_snoc]
    omega
/-- The counters while a change is counted. -/
def cntU (xs : List Nat) (x j v : Nat) : Int := cntB xs v + if v < j then bitI x v else 0
theorem cntU_zero (xs : List Nat) (x v : Nat) : cntU xs x 0 v = cntB xs v := by simp [cntU]
theorem cntU_all (xs : List Nat) (x : Nat) {v : Nat} (h : v < 12) : cntU xs x 12 v = cntB (xs ++ [x]) v := by rw [cntB_snoc]; simp [cntU, h]
theorem cntU_succ (xs : List Nat) (x j : Nat) : ∀ v, v < 12 → cntU xs x (j + 1) v = if v = j then cntU xs x (j + 1) j else cntU xs x j v := fun v _ => by
  unfold cntU
  by_cases h : v = j
  · rw [if_pos h, h]
  · rw [if_neg h]
    by_cases h2 : v < j
    · rw [if_pos h2, if_pos (by omega)]
    · rw [if_neg h2, if_neg (by omega)]
theorem cntU_at (xs : List Nat) (x j : Nat) : cntU xs x (j + 1) j = cntU xs x j j + bitI x j := by
  unfold cntU
  simp
def cntT (xs : List Nat) (v : Nat) : Int := cntB xs v
theorem wrap_pos {z : Int} (h0 : 0 ≤ z) (h1 : z < 9223372036854775808) : IntKind.i64.wrap z = z := by
  obtain ⟨n, rfl⟩ := Int.eq_ofNat_of_zero_le h0
  exact wrap_nat (by omega)
def zeroU (_ : Nat) : Int := 0
def SwRes (w : World) (xs : List Nat) (e : Ending) (w' : World) : Prop := e = .returned (.agg #[.int .i64 (cntT xs 0), .int .i64 (cntT xs 1), .int .i64 (cntT xs 2), .int .i64 (cntT xs 3), .int .i64 (cntT xs 4), .int .i64 (cntT xs 5), .int .i64 (cntT xs 6), .int .i64 (cntT xs 7), .int .i64 (cntT xs 8), .int .i64 (cntT xs 9), .int .i64 (cntT xs 10), .int .i64 (cntT xs 11)]) ∧ Below w.heap.size w w'
set_option maxRecDepth 100000 in
set_option maxHeartbeats 8000000 in
theorem switchings_any (B : Nat) (A : Option Addr) (n c : Nat) (l : List Od) (w : World) (hr : Reads w B 2 A n (ods l)) (hB : B ≤ w.heap.size) (hn : n ≤ 256) (hp : ∀ x ∈ l, 0 ≤ x.c ∧ x.c ≤ 4095) :
    Calls Tryz.prog 101 #[.slice A n c] w (SwRes w (xrL l)) := by
  have HC := Lib.hid (fun W (hW : Below w.heap.size w W) => changes_any B A n c l W (hr.below (hW.mono hB)) (by have := hW.size; omega) hn hp)
  unfold ChRes at HC
  have hxl := xrL_len l
  have hll := (od_at hr).1
  have HX := Lib.hid (xrL_lt hp)
  generalize xrL l = xs at *
  have hm : xs.length ≤ 256 := by omega
  clear hr hp hxl hll
  go_enter Tryz.func101, Tryz.ntmps101
  go_wp2_with fail
  refine (HC.out _ bl_).mono ?_
  rintro e W1 ⟨A1, c1, rfl, hr1, hfar, hb⟩
  have hz : Blk W1 w.heap.size 102 #[.int .i64 (zeroU 0), .int .i64 (zeroU 1), .int .i64 (zeroU 2), .int .i64 (zeroU 3), .int .i64 (zeroU 4), .int .i64 (zeroU 5), .int .i64 (zeroU 6), .int .i64 (zeroU 7), .int .i64 (zeroU 8), .int .i64 (zeroU 9), .int .i64 (zeroU 10), .int .i64 (zeroU 11)] := (show Blk W1 w.heap.size 102 #[.int .i64 0, .int .i64 0, .int .i64 0, .int .i64 0, .int .i64 0, .int .i64 0, .int .i64 0, .int .i64 0, .int .i64 0, .int .i64 0, .int .i64 0, .int .i64 0] from bk_)
  have hz1 : Blk W1 (w.heap.size + 1) 102 #[.int .i64 (zeroU 0), .int .i64 (zeroU 1), .int .i64 (zeroU 2), .int .i64 (zeroU 3), .int .i64 (zeroU 4), .int .i64 (zeroU 5), .int .i64 (zeroU 6), .int .i64 (zeroU 7), .int .i64 (zeroU 8), .int .i64 (zeroU 9), .int .i64 (zeroU 10), .int .i64 (zeroU 11)] := (show Blk W1 (w.heap.size + 1) 102 #[.int .i64 0, .int .i64 0, .int .i64 0, .int .i64 0, .int .i64 0, .int .i64 0, .int .i64 0, .int .i64 0, .int .i64 0, .int .i64 0, .int .i64 0, .int .i64 0] from bk_)
  have hlo : Below w.heap.size w W1 := bl_
  have HZ := Lib.hid hz
  have HZ1 := Lib.hid hz1
  have HL := Lib.hid hlo
  have HR := Lib.hid hr1
  have hfar' : ∀ b o s, A1 = some ⟨b, o, s⟩ → w.heap.size + 2 ≤ b := fun b o s e => by have := hfar b o s e; simp at this; omega
  have HFar := Lib.hid hfar'
  have hs1 : w.heap.size + 2 ≤ W1.heap.size := by have := hz1.lt; omega
  clear hb hz hz1 hlo hr1 hfar hfar' HC
  go_wp2_with fail
  go_loopw [10] (fun s10 wr => ∃ k : Nat, k ≤ xs.length ∧ s10 = .int .i64 (k : Int) ∧ Blk wr w.heap.size 102 #[.int .i64 (zeroU 0), .int .i64 (zeroU 1), .int .i64 (zeroU 2), .int .i64 (zeroU 3), .int .i64 (zeroU 4), .int .i64 (zeroU 5), .int .i64 (zeroU 6), .int .i64 (zeroU 7), .int .i64 (zeroU 8), .int .i64 (zeroU 9), .int .i64 (zeroU 10), .int .i64 (zeroU 11)] ∧ Blk wr (w.heap.size + 1) 102 #[.int .i64 (cntT (xs.take k) 0), .int .i64 (cntT (xs.take k) 1), .int .i64 (cntT (xs.take k) 2), .int .i64 (cntT (xs.take k) 3), .int .i64 (cntT (xs.take k) 4), .int .i64 (cntT (xs.take k) 5), .int .i64 (cntT (xs.take k) 6), .int .i64 (cntT (xs.take k) 7), .int .i64 (cntT (xs.take k) 8), .int .i64 (cntT (xs.take k) 9), .int .i64 (cntT (xs.take k) 10), .int .i64 (cntT (xs.take k) 11)] ∧ Ex [w.heap.size + 1] W1 wr) (fun s10 _ => xs.length - (intOf s10).toNat)
  case atStart => exact ⟨0, by omega, rfl, HZ.out, HZ1.out, Ex.refl _ _⟩
  case round =>
    as_aux_lemma =>
      obtain ⟨k, hk, rfl, h0, h1, he⟩ := hrel
      have H0 := Lib.hid h0
      have H1 := Lib.hid h1
      have HE := Lib.hid he
      have hsr := he.size
      clear h0 h1 he
      by_cases hlt : k < xs.length
      · skip
        as_aux_lemma =>
          have hkI : decide ((k : Int) < (xs.length : Int)) = true := by simp; omega
          obtain ⟨b, o, u, eA, hbb, hu, z0⟩ := HR.out.at_ hlt
          have hu2 : u = .int .i64 ((xs[k] : Nat) : Int) := by
            rw [List.getElem?_map, List.getElem?_eq_getElem hlt] at hu
            exact (Option.some.inj hu).symm
          have hx12 := HX.out _ (List.getElem_mem hlt)
          have hTs : Hid (xs.take (k + 1) = xs.take k ++ [xs[k]]) := Lib.hid (List.take_succ_eq_append_getElem hlt)
          have hLt : (xs.take k).length ≤ 256 := by rw [List.length_take]; omega
          have hbge := HFar.out _ _ _ eA
          have hbn : ∀ i, wr.cell? ⟨b, i, none⟩ = W1.cell? ⟨b, i, none⟩ := fun i => World.cell?_of_block (w := W1) (HE.out.block b hbb (by simp; omega))
          have hbw : b < wr.heap.size := by omega
          rw [hu2, ← hbn] at z0
          subst eA
          clear hu hu2 hbn
          generalize xs[k] = x at *
          go_wp2_with fail
          go_loopw [14] (fun s14 wr => ∃ j : Nat, j ≤ 12 ∧ s14 = .int .i64 (j : Int) ∧ Blk wr w.heap.size 102 #[.int .i64 (zeroU 0), .int .i64 (zeroU 1), .int .i64 (zeroU 2), .int .i64 (zeroU 3), .int .i64 (zeroU 4), .int .i64 (zeroU 5), .int .i64 (zeroU 6), .int .i64 (zeroU 7), .int .i64 (zeroU 8), .int .i64 (zeroU 9), .int .i64 (zeroU 10), .int .i64 (zeroU 11)] ∧ Blk wr (w.heap.size + 1) 102 #[.int .i64 (cntU (xs.take k) x j 0), .int .i64 (cntU (xs.take k) x j 1), .int .i64 (cntU (xs.take k) x j 2), .int .i64 (cntU (xs.take k) x j 3), .int .i64 (cntU (xs.take k) x j 4), .int .i64 (cntU (xs.take k) x j 5), .int .i64 (cntU (xs.take k) x j 6), .int .i64 (cntU (xs.take k) x j 7), .int .i64 (cntU (xs.take k) x j 8), .int .i64 (cntU (xs.take k) x j 9), .int .i64 (cntU (xs.take k) x j 10), .int .i64 (cntU (xs.take k) x j 11)] ∧ Ex [w.heap.size + 1] W1 wr) (fun s14 _ => 12 - (intOf s14).toNat)
          case atStart => exact ⟨0, by omega, rfl, H0.out, by simpa [cntU_zero, cntT] using H1.out, HE.out⟩
          case round =>
            obtain ⟨j, hj, rfl, h0, h1, he⟩ := hrel
            have G0 := Lib.hid h0
            have G1 := Lib.hid h1
            have GE := Lib.hid he
            have hsg := he.size
            clear h0 h1 he
            by_cases hlj : j < 12
            · skip
              as_aux_lemma =>
                have hjI : (j : Int) < 12 := by omega
                have hjI0 : (0 : Int) ≤ (j : Int) := by omega
                have hd12 : decide ((j : Int) < 12) = true := by simp; omega
                have hbit := bit_of (v := j) hx12
                have hcb := cntB_bd _ (xs.take k) j rfl
                have hU : cntU (xs.take k) x j j = cntB (xs.take k) j := by simp [cntU]
                have hat := cntU_at (xs.take k) x j
                have hbd := bitI_bd x j
                have hL256 : ((xs.take k).length : Int) ≤ 256 := by omega
                rw [hU] at hat
                have hwr : IntKind.i64.wrap (cntB (xs.take k) j + bitI x j) = cntB (xs.take k) j + bitI x j := wrap_pos (by omega) (by omega)
                have G1b : Hid (Blk wr (w.heap.size + 1) 102 #[.int .i64 (cntU (xs.take k) x j 0), .int .i64 (cntU (xs.take k) x j 1), .int .i64 (cntU (xs.take k) x j 2), .int .i64 (cntU (xs.take k) x j 3), .int .i64 (cntU (xs.take k) x j 4), .int .i64 (cntU (xs.take k) x j 5), .int .i64 (cntU (xs.take k) x j 6), .int .i64 (cntU (xs.take k) x j 7), .int .i64 (cntU (xs.take k) x j 8), .int .i64 (cntU (xs.take k) x j 9), .int .i64 (cntU (xs.take k) x j 10), .int .i64 (cntU (xs.take k) x j 11)] ∧ cntU (xs.take k) x j j = cntB (xs.take k) j) := Lib.hid ⟨G1.out, hU⟩
                have HSucc := Lib.hid (cntU_succ (xs.take k) x j)
                have HAt := Lib.hid hat
                have HBit := Lib.hid hbit
                generalize cntB (xs.take k) j = cb at *
                generalize bitI x j = bi at *
                clear hU hat G1
                go_wp2_with fail
                (refine wp_region_calm [w.heap.size + 1] [0, 1, 3, 4, 5, 6] 4 (by kernel_rfl) rfl (by kernel_rfl) (by kernel_rfl) (by kernel_rfl) ?_; simp only [pickB, List.filterMap_cons, List.filterMap_nil, List.getElem?_toArray, List.getElem?_cons_zero, List.getElem?_cons_succ]; (repeat (first | ((first | (with_reducible refine quietL_plain rfl (fun K hK => ?_)) | (with_reducible refine quietL_want (by with_unfolding_all rfl) (fun K hK => ?_))); (apply Exists.intro; refine ⟨fun wx hx => ?_, ?_⟩; (· (have hcx := ifs_ex hx); simp [go_sem, *, ↓IntWalk.iteOmega] <;> (first | rfl | exact ⟨rfl, rfl⟩ | fail)); (simp only [Act.put, List.setIfInBounds_toArray, List.set_cons_zero, List.set_cons_succ]; refine hK _ ?_; clear hK K))) | ((with_reducible refine quietL_skip (by with_unfolding_all rfl) ?_); simp only [Act.put, List.setIfInBounds_toArray, List.set_cons_zero, List.set_cons_succ]))); refine quietL_nil ?_)
                refine anyB_one (i := 2) (by kernel_rfl) rfl rfl ?_
                intro w2 hb2 K hK
                have G2 := Lib.hid (G1b.out.1.kept hb2)
                have cx : w2.cell? ⟨w.heap.size + 1, j, none⟩ = some (.int .i64 cb) := by rw [← G1b.out.2]; exact p12_at G2.out hlj
                have lx := G2.out.lt
                go_wp2
                have hx2 := Ex.of_below (X := [w.heap.size + 1]) hb2
                refine ⟨hx2, ?_⟩
                clear cx lx
                (refine anyB_quiet_at (by kernel_rfl) calm_panic xs_ 1 [7, 8] _ _ (by kernel_rfl) (by decide +kernel) ?_; simp only [pickB, List.filterMap_cons, List.filterMap_nil, List.getElem?_toArray, List.getElem?_cons_zero, List.getElem?_cons_succ]; (repeat (first | ((first | (with_reducible refine quietL_plain rfl (fun K hK => ?_)) | (with_reducible refine quietL_want (by with_unfolding_all rfl) (fun K hK => ?_))); (apply Exists.intro; refine ⟨fun wx hx => ?_, ?_⟩; (· (have hcx := ifs_ex hx); simp [go_sem, *, ↓IntWalk.iteOmega] <;> (first | rfl | exact ⟨rfl, rfl⟩ | fail)); (simp only [Act.put, List.setIfInBounds_toArray, List.set_cons_zero, List.set_cons_succ]; refine hK _ ?_; clear hK K))) | ((with_reducible refine quietL_skip (by with_unfolding_all rfl) ?_); simp only [Act.put, List.setIfInBounds_toArray, List.set_cons_zero, List.set_cons_succ]))); refine quietL_nil ?_)
                refine anyB_one (i := 9) (by kernel_rfl) rfl rfl ?_
                intro w3 hb3 K hK
                have G3 := Lib.hid (G2.out.kept hb3)
                have cx : w3.cell? ⟨w.heap.size + 1, j, none⟩ = some (.int .i64 cb) := by rw [← G1b.out.2]; exact p12_at G3.out hlj
                have fx := G3.out.frozen
                have lx := G3.out.lt
                have G4 : Hid (Blk (w3.setCell ⟨w.heap.size + 1, j, none⟩ (.int .i64 (cb + bi))) (w.heap.size + 1) 102 #[.int .i64 (cntU (xs.take k) x (j + 1) 0), .int .i64 (cntU (xs.take k) x (j + 1) 1), .int .i64 (cntU (xs.take k) x (j + 1) 2), .int .i64 (cntU (xs.take k) x (j + 1) 3), .int .i64 (cntU (xs.take k) x (j + 1) 4), .int .i64 (cntU (xs.take k) x (j + 1) 5), .int .i64 (cntU (xs.take k) x (j + 1) 6), .int .i64 (cntU (xs.take k) x (j + 1) 7), .int .i64 (cntU (xs.take k) x (j + 1) 8), .int .i64 (cntU (xs.take k) x (j + 1) 9), .int .i64 (cntU (xs.take k) x (j + 1) 10), .int .i64 (cntU (xs.take k) x (j + 1) 11)]) := Lib.hid (by have := p12_set hlj G3.out HSucc.out; rw [HAt.out] at this; exact this)
                have H4 := Lib.hid (Ex.set_in (p := ⟨w.heap.size + 1, j, none⟩) (by simp) (hx2.grown hb3) (.int .i64 (cb + bi)))
                go_wp2
                refine ⟨H4.out, ?_⟩
                clear cx fx lx hb2 hb3 hx2
                refine anyB_end (by kernel_rfl) ?_
                intro w5 hb5
                simp only [Calm]
                have G5 := Lib.hid (G4.out.kept hb5)
                have HE5 := Lib.hid (H4.out.grown hb5)
                clear hb5
                go_wp2_with fail
                go_roundw
                case rel => exact ⟨j + 1, by omega, by go_num, HE5.out.blk G0.out (by simp), G5.out, GE.out.then HE5.out⟩
                case measure => simp [intOf]; omega
            · obtain rfl : j = 12 := by omega
              have G6 : Hid (Blk wr (w.heap.size + 1) 102 #[.int .i64 (cntT (xs.take (k + 1)) 0), .int .i64 (cntT (xs.take (k + 1)) 1), .int .i64 (cntT (xs.take (k + 1)) 2), .int .i64 (cntT (xs.take (k + 1)) 3), .int .i64 (cntT (xs.take (k + 1)) 4), .int .i64 (cntT (xs.take (k + 1)) 5), .int .i64 (cntT (xs.take (k + 1)) 6), .int .i64 (cntT (xs.take (k + 1)) 7), .int .i64 (cntT (xs.take (k + 1)) 8), .int .i64 (cntT (xs.take (k + 1)) 9), .int .i64 (cntT (xs.take (k + 1)) 10), .int .i64 (cntT (xs.take (k + 1)) 11)]) := Lib.hid (by rw [hTs.out]; have := G1.out; simpa [cntU_all, cntT] using this)
              go_wp2_with fail
              go_roundw
              case rel => exact ⟨k + 1, by omega, by go_num, G0.out, G6.out, GE.out⟩
              case measure => simp [intOf]; omega
      · skip
        as_aux_lemma =>
          obtain rfl : k = xs.length := by omega
          have h6 := H1.out
          rw [List.take_of_length_le (Nat.le_refl _)] at h6
          have H6 := Lib.hid h6
          have HLo := Lib.hid (HL.out.trans (HE.out.lows HL.out.size (by simp)))
          clear h6
          have e2 : (Tryz.prog.info? 102).map (·.size) = some (#[.int .i64 (cntT xs 0), .int .i64 (cntT xs 1), .int .i64 (cntT xs 2), .int .i64 (cntT xs 3), .int .i64 (cntT xs 4), .int .i64 (cntT xs 5), .int .i64 (cntT xs 6), .int .i64 (cntT xs 7), .int .i64 (cntT xs 8), .int .i64 (cntT xs 9), .int .i64 (cntT xs 10), .int .i64 (cntT xs 11)] : Array Value).size := by kernel_rfl
          have e1 : (#[.int .i64 (cntT xs 0), .int .i64 (cntT xs 1), .int .i64 (cntT xs 2), .int .i64 (cntT xs 3), .int .i64 (cntT xs 4), .int .i64 (cntT xs 5), .int .i64 (cntT xs 6), .int .i64 (cntT xs 7), .int .i64 (cntT xs 8), .int .i64 (cntT xs 9), .int .i64 (cntT xs 10), .int .i64 (cntT xs 11)] : Array Value).size = (#[.int .i64 (zeroU 0), .int .i64 (zeroU 1), .int .i64 (zeroU 2), .int .i64 (zeroU 3), .int .i64 (zeroU 4), .int .i64 (zeroU 5), .int .i64 (zeroU 6), .int .i64 (zeroU 7), .int .i64 (zeroU 8), .int .i64 (zeroU 9), .int .i64 (zeroU 10), .int .i64 (zeroU 11)] : Array Value).size := rfl
          have e3 : (#[.int .i64 (cntT xs 0), .int .i64 (cntT xs 1), .int .i64 (cntT xs 2), .int .i64 (cntT xs 3), .int .i64 (cntT xs 4), .int .i64 (cntT xs 5), .int .i64 (cntT xs 6), .int .i64 (cntT xs 7), .int .i64 (cntT xs 8), .int .i64 (cntT xs 9), .int .i64 (cntT xs 10), .int .i64 (cntT xs 11)] : Array Value).all (·.oneCell') = true := by simp [Value.oneCell']

          have HPost : Hid (∀ w4, Below w.heap.size w w4 → SwRes w xs (.returned (.agg #[.int .i64 (cntT xs 0), .int .i64 (cntT xs 1), .int .i64 (cntT xs 2), .int .i64 (cntT xs 3), .int .i64 (cntT xs 4), .int .i64 (cntT xs 5), .int .i64 (cntT xs 6), .int .i64 (cntT xs 7), .int .i64 (cntT xs 8), .int .i64 (cntT xs 9), .int .i64 (cntT xs 10), .int .i64 (cntT xs 11)])) w4) := Lib.hid (fun w4 h => ⟨rfl, h⟩)
          generalize (#[.int .i64 (cntT xs 0), .int .i64 (cntT xs 1), .int .i64 (cntT xs 2), .int .i64 (cntT xs 3), .int .i64 (cntT xs 4), .int .i64 (cntT xs 5), .int .i64 (cntT xs 6), .int .i64 (cntT xs 7), .int .i64 (cntT xs 8), .int .i64 (cntT xs 9), .int .i64 (cntT xs 10), .int .i64 (cntT xs 11)] : Array Value) = C at *
          have E1 := Lib.hid e1
          have E2 := Lib.hid e2
          have E3 := Lib.hid e3
          clear e1 e2 e3
          go_wp2_with (first | (refine wpList_load_row rfl 102 (.tmp 3) rfl (w.heap.size + 1) rfl 102 C (0, 0) _ H6.out Tryz.underlying102 rfl E2.out ?_) | (refine wpList_store_blk rfl 102 (.tmp 2) (.tmp 28) rfl w.heap.size C rfl rfl H0.out E1.out E2.out E3.out ?_; intro w4 hb4 hk4 hw4 hs4))
          have hW : Below w.heap.size w w4 := hw4 _ _ (Nat.le_refl _) HLo.out
          refine bodyPost_ret (v := .agg C) ?_ rfl (HPost.out _ hW)
          exact results_cell_row Tryz.results101 _ _ w.heap.size _ _ _ _ rfl hb4 Tryz.underlying102 rfl E2.out
set_option maxRecDepth 100000 in
set_option maxHeartbeats 4000000 in
theorem Switchings_any (B : Nat) (A : Option Addr) (n c : Nat) (l : List Od) (w : World) (hr : Reads w B 2 A n (ods l)) (hB : B ≤ w.heap.size) (hT : TrOk l) :
    Calls Tryz.prog 41 #[.slice A n c] w fun e w' => e = .returned (.tuple #[.agg #[.int .i64 (cntT (xrL l) 0), .int .i64 (cntT (xrL l) 1), .int .i64 (cntT (xrL l) 2), .int .i64 (cntT (xrL l) 3), .int .i64 (cntT (xrL l) 4), .int .i64 (cntT (xrL l) 5), .int .i64 (cntT (xrL l) 6), .int .i64 (cntT (xrL l) 7), .int .i64 (cntT (xrL l) 8), .int .i64 (cntT (xrL l) 9), .int .i64 (cntT (xrL l) 10), .int .i64 (cntT (xrL l) 11)], .int .i64 0]) ∧ Below w.heap.size w w' := by
  have hl := (od_at hr).1
  have h256 := hT.len
  rw [hl] at h256
  have HC := Lib.hid (fun W (hW : Below w.heap.size w W) => CheckTrain_any B A n c l W hT (hr.below (hW.mono hB)) (by have := hW.size; omega))
  have HS := Lib.hid (fun W (hW : Below w.heap.size w W) => switchings_any B A n c l W (hr.below (hW.mono hB)) (by have := hW.size; omega) h256 hT.p)
  unfold SwRes at HS
  have e2 : (Tryz.prog.info? 102).map (·.size) = some (#[.int .i64 (cntT (xrL l) 0), .int .i64 (cntT (xrL l) 1), .int .i64 (cntT (xrL l) 2), .int .i64 (cntT (xrL l) 3), .int .i64 (cntT (xrL l) 4), .int .i64 (cntT (xrL l) 5), .int .i64 (cntT (xrL l) 6), .int .i64 (cntT (xrL l) 7), .int .i64 (cntT (xrL l) 8), .int .i64 (cntT (xrL l) 9), .int .i64 (cntT (xrL l) 10), .int .i64 (cntT (xrL l) 11)] : Array Value).size := by kernel_rfl
  have e1 : (#[.int .i64 (cntT (xrL l) 0), .int .i64 (cntT (xrL l) 1), .int .i64 (cntT (xrL l) 2), .int .i64 (cntT (xrL l) 3), .int .i64 (cntT (xrL l) 4), .int .i64 (cntT (xrL l) 5), .int .i64 (cntT (xrL l) 6), .int .i64 (cntT (xrL l) 7), .int .i64 (cntT (xrL l) 8), .int .i64 (cntT (xrL l) 9), .int .i64 (cntT (xrL l) 10), .int .i64 (cntT (xrL l) 11)] : Array Value).size = (#[.int .i64 (zeroU 0), .int .i64 (zeroU 1), .int .i64 (zeroU 2), .int .i64 (zeroU 3), .int .i64 (zeroU 4), .int .i64 (zeroU 5), .int .i64 (zeroU 6), .int .i64 (zeroU 7), .int .i64 (zeroU 8), .int .i64 (zeroU 9), .int .i64 (zeroU 10), .int .i64 (zeroU 11)] : Array Value).size := rfl
  have e3 : (#[.int .i64 (cntT (xrL l) 0), .int .i64 (cntT (xrL l) 1), .int .i64 (cntT (xrL l) 2), .int .i64 (cntT (xrL l) 3), .int .i64 (cntT (xrL l) 4), .int .i64 (cntT (xrL l) 5), .int .i64 (cntT (xrL l) 6), .int .i64 (cntT (xrL l) 7), .int .i64 (cntT (xrL l) 8), .int .i64 (cntT (xrL l) 9), .int .i64 (cntT (xrL l) 10), .int .i64 (cntT (xrL l) 11)] : Array Value).all (·.oneCell') = true := by simp [Value.oneCell']
  generalize (#[.int .i64 (cntT (xrL l) 0), .int .i64 (cntT (xrL l) 1), .int .i64 (cntT (xrL l) 2), .int .i64 (cntT (xrL l) 3), .int .i64 (cntT (xrL l) 4), .int .i64 (cntT (xrL l) 5), .int .i64 (cntT (xrL l) 6), .int .i64 (cntT (xrL l) 7), .int .i64 (cntT (xrL l) 8), .int .i64 (cntT (xrL l) 9), .int .i64 (cntT (xrL l) 10), .int .i64 (cntT (xrL l) 11)] : Array Value) = C at *
  have E1 := Lib.hid e1
  have E2 := Lib.hid e2
  have E3 := Lib.hid e3
  clear e1 e2 e3 hr hT hl
  go_enter Tryz.func41, Tryz.ntmps41
  go_wp2_with fail
  refine (HC.out _ bl_).mono ?_
  rintro e W1 ⟨rfl, hb⟩
  have hz : Blk W1 w.heap.size 102 #[.int .i64 (zeroU 0), .int .i64 (zeroU 1), .int .i64 (zeroU 2), .int .i64 (zeroU 3), .int .i64 (zeroU 4), .int .i64 (zeroU 5), .int .i64 (zeroU 6), .int .i64 (zeroU 7), .int .i64 (zeroU 8), .int .i64 (zeroU 9), .int .i64 (zeroU 10), .int .i64 (zeroU 11)] := (show Blk W1 w.heap.size 102 #[.int .i64 0, .int .i64 0, .int .i64 0, .int .i64 0, .int .i64 0, .int .i64 0, .int .i64 0, .int .i64 0, .int .i64 0, .int .i64 0, .int .i64 0, .int .i64 0] from bk_)
  have hlo : Below w.heap.size w W1 := bl_
  have HZ := Lib.hid hz
  have HL := Lib.hid hlo
  clear hb hz hlo
  go_wp2_with fail
  refine (HS.out _ HL.out).mono ?_
  rintro e W2 ⟨rfl, hb⟩
  have HZ2 := Lib.hid (HZ.out.kept hb)
  have HL2 := Lib.hid (HL.out.trans (hb.mono HL.out.size))
  clear hb
  go_wp2_with (refine wpList_store_blk rfl 102 (.tmp 2) (.tmp 12) rfl w.heap.size C rfl rfl HZ2.out E1.out E2.out E3.out ?_; intro w4 hb4 hk4 hw4 hs4)
  have hW : Below w.heap.size w w4 := hw4 _ _ (Nat.le_refl _) HL2.out
  refine bodyPost_ret (v := .tuple #[.agg C, .int .i64 0]) ?_ rfl ⟨rfl, hW⟩
  exact results_blk_tmp Tryz.results41 _ _ w.heap.size _ _ _ _ rfl hb4 Tryz.underlying102 rfl E2.out rfl
end Go.Proofs.YtafnebfchhmgcaaGreat
