/- Telegrams: Lost of the program. -/
import Derived.WalkMore
import Derived.Laws.CopyOwn
import Derived.Test.YtafnebfchhmgcaaGreatN26
import Derived.Test.YtafnebfchhmgcaaGreatQb
import Derived.Test.YtafnebfchhmgcaaGreatV0
import Derived.Deep.DeepCutAuto
namespace Go.Proofs.YtafnebfchhmgcaaGreat
open Go Go.RowKit Go.Sort Go.Shelf
set_option linter.unusedSimpArgs false
set_option linter.unusedVariables false
attribute [local go_sem] cell_if frozen_if grow_cell
theorem elemTel : Elem Tryz.prog 72 71 6 48 := elem_of Tryz.underlying72 (z := .agg #[.int .i64 0, .int .i64 0, .int .i64 0, .int .i64 0, .int .i64 0, .int .i64 0]) (by kernel_rfl) rfl (by decide)
theorem tl_at {w : World} {B n : Nat} {A : Option Addr} {l : List Tl} (h : Reads w B 6 A n (tls l)) : l.length = n ∧ ∀ k, (hk : k < l.length) → ∃ b o, A = some ⟨b, o, none⟩ ∧ b < B ∧ w.cell? ⟨b, o + k * 6, none⟩ = some (.int .i64 l[k].s) ∧ w.cell? ⟨b, o + k * 6 + 1, none⟩ = some (.int .i64 l[k].c) ∧ w.cell? ⟨b, o + k * 6 + 2, none⟩ = some (.int .i64 (l[k].v 0)) ∧ w.cell? ⟨b, o + k * 6 + 3, none⟩ = some (.int .i64 (l[k].v 1)) ∧ w.cell? ⟨b, o + k * 6 + 4, none⟩ = some (.int .i64 (l[k].v 2)) ∧ w.cell? ⟨b, o + k * 6 + 5, none⟩ = some (.int .i64 (l[k].v 3)) := by
  obtain ⟨h1, h2⟩ := flat_at (f := Tl.cells) (fun _ => rfl) (by decide) h
  refine ⟨h1, fun k hk => ?_⟩
  obtain ⟨b, o, e, hb, hc⟩ := h2 k hk
  exact ⟨b, o, e, hb, hc 0 _ rfl, hc 1 _ rfl, hc 2 _ rfl, hc 3 _ rfl, hc 4 _ rfl, hc 5 _ rfl⟩
set_option maxRecDepth 100000 in
set_option maxHeartbeats 2000000 in
theorem mapTl_any (B : Nat) (A : Option Addr) (n c : Nat) (l : List Tl) (w : World) (hg : ∀ t ∈ l, GoodTel t.s t.c t.v) (hr : Reads w B 6 A n (tls l)) (hB : B ≤ w.heap.size) (hn : n ≤ 1000) :
    Calls Tryz.prog 123 #[.slice A n c, .func (.func 70) #[] #[]] w (MapRes 31 w (l.map fun x => Value.int .i64 0)) := by
  obtain ⟨hl, ha⟩ := tl_at hr
  have HL := Lib.hid hl
  have HA := Lib.hid ha
  have HG := Lib.hid hg
  clear hl ha hr hg
  go_enter Tryz.func123, Tryz.ntmps123
  go_wp2_with fail
  go_loopw [5, 10] (fun v i wr => ∃ k : Nat, k ≤ n ∧ i = .int .i64 k ∧ wr.ownsRow w.heap.size 31 1 v k ((l.take k).map fun x => Value.int .i64 0) ∧ Below w.heap.size w wr) (fun _ i _ => n - (intOf i).toNat)
  case atStart => exact ⟨0, by omega, rfl, World.ownsRow_nil _ _ _ _, bl_⟩
  case round =>
    obtain ⟨k, hk, rfl, hO, hb⟩ := hrel
    have HO := Lib.hid hO
    clear hO
    have hs := hb.size
    by_cases hlt : k < n
    · have hkl : k < l.length := by rw [HL.out]; exact hlt
      obtain ⟨b, o, eA, hbb, hz⟩ := HA.out k hkl
      have kb : ∀ i, wr.cell? ⟨b, i, none⟩ = w.cell? ⟨b, i, none⟩ := fun i => hb.cell (p := ⟨b, i, none⟩) (by simp; omega)
      simp only [← kb] at hz
      clear kb
      have hbw : b < wr.heap.size := by omega
      subst eA
      have Hd : Hid (((l.take (k + 1)).map fun x => Value.int .i64 0) = ((l.take k).map fun x => Value.int .i64 0) ++ [(fun x => Value.int .i64 0) l[k]]) := by
        show _ = _
        rw [List.take_succ_eq_append_getElem hkl, List.map_append]; rfl
      have HGx := Lib.hid (HG.out _ (List.getElem_mem hkl))
      generalize l[k] = x at *
      obtain ⟨xs, xc, xv⟩ := x; obtain ⟨z0, z1, z2, z3, z4, z5⟩ := hz; dsimp only at z0 z1 z2 z3 z4 z5 HGx
      go_wp2_with (first | (go_at_call 70; refine (CheckTelegram_any xs xc xv _ HGx.out).mono ?_; rintro e w1 ⟨rfl, hb1⟩; have hs1 := hb1.size; simp at hs1; have HO1 := Lib.hid (own_kept (HO.out.alloc _) hb1)) | (at_builtin; refine wpList_app 187 31 1 8 elemErrno rfl (.tmp 14) (.tmp 18) rfl w.heap.size _ k _ rfl HO1.out 1 rfl rfl ?h1 (by decide) ?h3 (by omega) (by omega) ?_))
      case h1 => rfl
      case h3 => unfold maxLen; omega
      intro g' cap' w' hown' hb' _ hs'
      go_wp2
      go_roundw
      case rel => exact ⟨k + 1, by omega, by go_num, by rw [Hd.out]; simpa using hown', (hb.trans (((Below.refl _ _).alloc hs _).trans (hb1.mono (by simp; omega)))).trans hb'⟩
      case measure => simp [intOf]; omega
    · obtain rfl : k = n := by omega
      have HL2 := Lib.hid HL.out
      go_wp2
      go_ret
      refine ⟨_, rfl, ?_, hb⟩
      have := HO.out
      rw [List.take_of_length_le (by rw [HL2.out]; exact Nat.le_refl _)] at this
      rw [List.length_map, HL2.out]
      exact this

theorem zeroE {α : Type} : ∀ l : List α, firstE (l.map fun _ => (0 : Int)) = 0
  | [] => rfl
  | _ :: r => by
    have ih := zeroE r
    unfold firstE at ih ⊢
    rw [List.map_cons, List.find?_cons_of_neg (by decide)]
    exact ih
set_option maxRecDepth 100000 in
set_option maxHeartbeats 1000000 in
theorem checkTelegrams_any (B : Nat) (A : Option Addr) (n c : Nat) (l : List Tl) (w : World) (hg : ∀ t ∈ l, GoodTel t.s t.c t.v) (hr : Reads w B 6 A n (tls l)) (hB : B ≤ w.heap.size) (hn : n ≤ 1000) :
    Calls Tryz.prog 73 #[.slice A n c] w fun e w' => e = .returned (.int .i64 0) ∧ Below w.heap.size w w' := by
  have HM := Lib.hid (fun W (hW : w = W) => mapTl_any B A n c l W hg (hW ▸ hr) (hW ▸ hB) hn)
  have HZ := Lib.hid (zeroE l)
  have hl := (tl_at hr).1
  clear hg hr
  go_enter Tryz.func73, Tryz.ntmps73
  go_wp2_with fail
  refine (HM.out _ rfl).mono ?_
  rintro e w1 ⟨v, rfl, ho, hb⟩
  rw [List.length_map, hl] at ho
  obtain ⟨A1, c1, rfl, _, _, hr1⟩ := own_form ho
  have HR : Hid (Reads w1 w1.heap.size 1 A1 n ((l.map fun _ => (0 : Int)).map (.int .i64))) := Lib.hid (by rw [List.map_map]; exact hr1)
  have HB := Lib.hid hb
  clear ho hr1 hb hl
  go_wp2_with fail
  refine (pfirst_any _ _ n c1 _ _ HR.out (by unfold maxLen; omega)).mono ?_
  rw [HZ.out]
  rintro e w4 ⟨rfl, rfl⟩
  go_wp2_with fail
  go_ret
  exact ⟨rfl, HB.out⟩
theorem IndexFuncT_any (g : Nat) (cap : Array Value) (B : Nat) (A : Option Addr) (n c : Nat) (l : List Tl) (p : Tl → Bool) (w : World) (hr : Reads w B 6 A n (tls l)) (hB : B ≤ w.heap.size) (hn : n ≤ 1000) (eg : Enters Tryz.prog g) (hp : Pred Tryz.prog g #[] cap (fun x => .agg #[.int .i64 x.s, .int .i64 x.c, .int .i64 (x.v 0), .int .i64 (x.v 1), .int .i64 (x.v 2), .int .i64 (x.v 3)]) l p w) :
    Calls Tryz.prog 124 #[.slice A n c, .func (.func g) #[] cap] w fun e w' => e = .returned (.int .i64 (idxP p 0 l)) ∧ Below w.heap.size w w' := by
  obtain ⟨hl, ha⟩ := tl_at hr
  have HL := Lib.hid hl
  have HA := Lib.hid ha
  have HP := Lib.hid hp
  unfold Enters at eg
  clear hl ha hp hr
  go_enter Tryz.func124, Tryz.ntmps124
  go_wp2_with fail
  go_loopw [8] (fun i wr => ∃ k : Nat, k ≤ n ∧ i = .int .i64 k ∧ idxP p 0 l = idxP p k (l.drop k) ∧ Below w.heap.size w wr) (fun i _ => n - (intOf i).toNat)
  case atStart => exact ⟨0, by omega, rfl, rfl, bl_⟩
  case round =>
    obtain ⟨k, hk, rfl, hf, hb⟩ := hrel
    have Hf := Lib.hid hf; clear hf
    have hs := hb.size
    by_cases hlt : k < n
    · have hkl : k < l.length := by rw [HL.out]; exact hlt
      have HX := HP.out wr hb l[k] (List.getElem_mem hkl)
      obtain ⟨b, o, eA, hbb, hz⟩ := HA.out k hkl
      have kb : ∀ i, wr.cell? ⟨b, i, none⟩ = w.cell? ⟨b, i, none⟩ := fun i => hb.cell (p := ⟨b, i, none⟩) (by simp; omega)
      simp only [← kb] at hz
      clear kb
      subst eA
      have Hd : Hid (l.drop k = l[k] :: l.drop (k + 1)) := List.drop_eq_getElem_cons hkl
      generalize l[k] = x at *
      (obtain ⟨z0, z1, z2, z3, z4, z5⟩ := hz; obtain ⟨xs, xc, xv⟩ := x; dsimp only at z0 z1 z2 z3 z4 z5 HX)
      cases hq : p ⟨xs, xc, xv⟩ with
      | true =>
        rw [hq] at HX
        have HXH := Lib.hid HX
        have HQ := Lib.hid hq
        clear HX hq
        go_wp2_with fail
        refine HXH.out.mono ?_
        rintro e w1 ⟨rfl, hb1⟩
        go_wp2_with fail
        go_ret
        exact ⟨by rw [Hf.out, Hd.out, idxP_cons, HQ.out]; rfl, bl_⟩
      | false =>
        rw [hq] at HX
        have HXH := Lib.hid HX
        have HQ := Lib.hid hq
        clear HX hq
        go_wp2_with fail
        refine HXH.out.mono ?_
        rintro e w1 ⟨rfl, hb1⟩
        go_wp2_with fail
        go_roundw
        case rel => exact ⟨k + 1, by omega, by go_num, by rw [Hf.out, Hd.out, idxP_cons, HQ.out]; rfl, bl_⟩
        case measure => simp [intOf]; omega
    · obtain rfl : k = n := by omega
      go_wp2_with fail
      go_ret
      exact ⟨by rw [Hf.out, List.drop_eq_nil_of_le (by rw [HL.out]; exact Nat.le_refl _)]; rfl, bl_⟩
theorem idxP_none {α : Type} {p : α → Bool} : ∀ {l : List α} {k : Nat}, (∀ x ∈ l, p x = false) → idxP p k l = -1
  | [], _, _ => rfl
  | x :: r, k, h => by
    rw [idxP_cons, h x List.mem_cons_self]
    exact idxP_none fun y hy => h y (List.mem_cons_of_mem _ hy)
set_option maxRecDepth 100000 in
set_option maxHeartbeats 1000000 in
/-- None is deleted. -/
theorem DeleteT_any (g : Nat) (cap : Array Value) (B : Nat) (A : Option Addr) (n c : Nat) (l : List Tl) (p : Tl → Bool) (w : World) (hr : Reads w B 6 A n (tls l)) (hB : B ≤ w.heap.size) (hn : n ≤ 1000) (eg : Enters Tryz.prog g) (hp : Pred Tryz.prog g #[] cap (fun x => .agg #[.int .i64 x.s, .int .i64 x.c, .int .i64 (x.v 0), .int .i64 (x.v 1), .int .i64 (x.v 2), .int .i64 (x.v 3)]) l p w) (h0 : ∀ x ∈ l, p x = false) :
    Calls Tryz.prog 75 #[.slice A n c, .func (.func g) #[] cap] w fun e w' => e = .returned (.slice A n c) ∧ Below w.heap.size w w' := by
  have H := IndexFuncT_any g cap B A n c l p w hr hB hn eg hp
  rw [idxP_none h0] at H
  have HI := Lib.hid H
  clear H hr hp eg
  go_enter Tryz.func75, Tryz.ntmps75
  go_wp2_with fail
  refine HI.out.mono ?_
  rintro e w1 ⟨rfl, hb⟩
  go_wp2_with fail
  go_ret
  exact ⟨rfl, hb⟩
def CloneRes6 (w : World) (t n : Nat) (xs : List Value) (e : Ending) (w' : World) : Prop := ∃ v, e = .returned v ∧ w'.ownsRow w.heap.size t 6 v n xs ∧ Below w.heap.size w w'
set_option maxRecDepth 100000 in
theorem CloneT_any (B : Nat) (A : Option Addr) (n c : Nat) (xs : List Value) (w : World) (hr : Reads w B 6 A n xs) (hB : B ≤ w.heap.size) (h1 : ∀ u ∈ xs, u.oneCell' = true) (hn : n ≤ 1000) :
    Calls Tryz.prog 76 #[.slice A n c] w (CloneRes6 w 71 n xs) := by
  have q22 : ∀ (w : World) (a : Option Addr) (n c n' c' : Nat), (binOp .eql 72 (.slice a n c) (.slice none n' c')).run Tryz.prog w = .ok (.bool a.isNone) w := fun w a n c n' c' => Lib.run_eql_slice_nil w _ _ a n c n' c' Tryz.underlying72
  cases A with
  | none =>
    obtain rfl : n = 0 := by
      rcases Nat.eq_zero_or_pos n with h | h
      · exact h
      · obtain ⟨b, o, e, _⟩ := hr.2 h
        cases e
    obtain rfl : xs = [] := List.eq_nil_of_length_eq_zero (by rw [hr.1])
    clear hr h1
    go_enter Tryz.func76, Tryz.ntmps76
    go_wp2
    go_ret
    exact ⟨_, rfl, World.ownsRow_nil _ _ _ _, bl_⟩
  | some ad =>
    have hl := hr.1
    have hnews : Hid (∀ j u, xs[j]? = some u → (w.alloc (.cells #[] 71)).cell? (ad.add j) = some u) := fun j u hu => by
      have hj := (List.getElem?_eq_some_iff.1 hu).1
      obtain ⟨b, o, e, hb, hc⟩ := (hr.alloc hB (.cells #[] 71)).2 (by omega)
      cases e
      rw [Addr.add_lit]
      exact hc j u hu
    have H1 := Lib.hid h1
    have HL := Lib.hid hl
    clear hr h1 hl
    obtain ⟨ht, ⟨i, z, g1, g2, g3, g4, g5⟩, hp⟩ := elemTel
    have G1 := Lib.hid g1
    have G2 := Lib.hid g2
    have G3 := Lib.hid g3
    have G4 := Lib.hid g4
    have G5 := Lib.hid g5
    clear g1 g2 g3 g4 g5
    go_enter Tryz.func76, Tryz.ntmps76
    go_wp2_with (at_builtin; refine wpList_append_own (w.alloc (.cells #[] 71)) rfl (.tmp 5) (.tmp 6) 72 rfl w.heap.size 71 i z 6 48 ht G1.out G2.out G3.out G4.out G5.out hp _ 0 [] rfl (Own.new w w.heap.size 71 6 0 #[] (Nat.le_refl _) rfl (by decide)) ad n c xs rfl HL.out hnews.out H1.out (by unfold maxLen; omega) (by omega) (by simp) ?_)
    intro v' w' hO hg hnil
    have HO := Lib.hid hO
    have hb : Below w.heap.size w w' := ((Below.refl _ w).alloc (Nat.le_refl _) _).grown hg (by simp) (fun k hk => by simp [Value.ownBlock] at hk; omega)
    clear hO hg hnil
    obtain ⟨A', cap', rfl, _⟩ := own_form HO.out
    go_wp2
    go_ret
    exact ⟨_, rfl, HO.out, hb⟩

/-- The counters between two. -/
def gapL (a b : Int) : List Int := (List.range (b - a - 1).toNat).map fun (i : Nat) => a + 1 + (i : Int)
def lostL : List Int → List Int
  | a :: b :: r => gapL a b ++ lostL (b :: r)
  | _ => []
theorem lostL_snoc : ∀ (l : List Int) (a b : Int), lostL (l ++ [a, b]) = lostL (l ++ [a]) ++ gapL a b
  | [], a, b => by show gapL a b ++ [] = [] ++ gapL a b; simp
  | [x], a, b => by show gapL x a ++ (gapL a b ++ []) = (gapL x a ++ []) ++ gapL a b; simp
  | x :: y :: r, a, b => by
    have ih := lostL_snoc (y :: r) a b
    show gapL x y ++ lostL (y :: (r ++ [a, b])) = (gapL x y ++ lostL (y :: (r ++ [a]))) ++ gapL a b
    have e1 : y :: (r ++ [a, b]) = (y :: r) ++ [a, b] := rfl
    have e2 : y :: (r ++ [a]) = (y :: r) ++ [a] := rfl
    rw [e1, ih, e2, List.append_assoc]
theorem lostL_take (l : List Int) {i : Nat} (h0 : 0 < i) (hi : i < l.length) : lostL (l.take (i + 1)) = lostL (l.take i) ++ gapL l[i - 1] l[i] := by
  obtain ⟨j, rfl⟩ := Nat.exists_eq_add_of_le' h0
  have e1 : l.take (j + 1 + 1) = l.take j ++ [l[j], l[j + 1]] := by
    rw [List.take_succ_eq_append_getElem hi, List.take_succ_eq_append_getElem (by omega), List.append_assoc]
    rfl
  have e2 : l.take (j + 1) = l.take j ++ [l[j]] := List.take_succ_eq_append_getElem (by omega)
  rw [e1, e2]
  exact lostL_snoc _ _ _
theorem gapL_at (a b : Int) {m : Nat} (h : m < (gapL a b).length) : (gapL a b)[m] = a + 1 + (m : Int) := by simp [gapL]
theorem and_word {z : Int} (h : 0 ≤ z ∧ z ≤ 65535) : bits .and .i64 z 65535 = z := by
  obtain ⟨n, rfl⟩ := Int.eq_ofNat_of_zero_le h.1
  have := bo_and (x := n) (y := 65535) (by omega) (by omega)
  have e : n &&& 65535 = n := by
    have := Nat.and_two_pow_sub_one_eq_mod n 16
    rw [show (65535 : Nat) = 2 ^ 16 - 1 by decide, this]
    omega
  rw [e] at this
  exact this
/-- Counters that may be sent: near each other, rising. -/
structure CtOk (l : List Int) : Prop where
  lo : ∀ c ∈ l, 0 ≤ c ∧ c ≤ 60000
  up : ∀ i, (h : i + 1 < l.length) → l[i] < l[i + 1]'h ∧ l[i + 1]'h ≤ l[i] + 8
  len : l.length ≤ 8
theorem gapL_len (a b : Int) : (gapL a b).length = (b - a - 1).toNat := by simp [gapL]
theorem lostL_bd (l : List Int) (h : CtOk l) : ∀ i, i ≤ l.length → (lostL (l.take i)).length ≤ 8 * i
  | 0, _ => Nat.zero_le _
  | i + 1, hi => by
    have ih := lostL_bd l h i (by omega)
    rcases Nat.eq_zero_or_pos i with rfl | h0
    · match l, hi with
      | x :: r, _ => exact Nat.zero_le _
    · rw [lostL_take l h0 (by omega), List.length_append, gapL_len]
      have := h.up (i - 1) (by omega)
      simp only [show i - 1 + 1 = i by omega] at this
      omega
def LostRes (w : World) (cs : List Int) (e : Ending) (w' : World) : Prop := ∃ v, e = .returned (.tuple #[v, .int .i64 0]) ∧ w'.ownsRow w.heap.size 3 1 v (lostL cs).length ((lostL cs).map (.int .i64)) ∧ Below w.heap.size w w'
theorem lostc_any (s : Int) (bs : Nat) (x : Tl) (w : World) (hB : Blk w bs 3 #[.int .i64 s]) :
    Calls Tryz.prog 77 #[.agg #[.int .i64 x.s, .int .i64 x.c, .int .i64 (x.v 0), .int .i64 (x.v 1), .int .i64 (x.v 2), .int .i64 (x.v 3)], .pointer (some ⟨bs, 0, none⟩)] w fun e w' => e = .returned (.bool (x.s != s)) ∧ Below w.heap.size w w' := by
  have cB := hB.cell
  have lB := hB.lt
  go_enter Tryz.func77, Tryz.ntmps77
  go_wp2_with fail
  go_ret
  exact ⟨rfl, bl_⟩
set_option maxRecDepth 100000 in
set_option maxHeartbeats 8000000 in
theorem Lost_any (B : Nat) (A : Option Addr) (n c : Nat) (l : List Tl) (w : World) (hg : ∀ t ∈ l, GoodTel t.s t.c t.v) (hs : ∀ t ∈ l, t.s = 7) (hC : CtOk (l.map Tl.c)) (hr : Reads w B 6 A n (tls l)) (hB : B ≤ w.heap.size) (hn : n ≤ 8) :
    Calls Tryz.prog 24 #[.slice A n c, .int .i64 7] w (LostRes w (l.map Tl.c)) := by
  have hl := (tl_at hr).1
  have HLn := Lib.hid hl
  have HCk := Lib.hid (fun W (hW : Below w.heap.size w W) => checkTelegrams_any B A n c l W hg (hr.below (hW.mono hB)) (by have := hW.size; omega) (by omega))
  have HR := Lib.hid hr
  have HCt := Lib.hid hC
  have HSv := Lib.hid hs
  have e2 : ckR 7 0 255 = 0 := ckR_yes ⟨by decide, by decide⟩
  clear hr hC hs hg hl
  go_enter Tryz.func24, Tryz.ntmps24
  go_wp2_with fail
  go_step3
  go_upto_region 1 with fail
  refine wp_world ?_
  intro W0 hW0
  have HB0 := Lib.hid (show Blk W0 w.heap.size 3 #[.int .i64 7] from by rw [hW0]; exact bk_)
  have HL0 := Lib.hid (show Below w.heap.size w W0 from by rw [hW0]; exact bl_)
  clear hW0
  have cB := HB0.out.cell
  have lB := HB0.out.lt
  go_cut [6] (fun s6 wx => s6 = .int .i64 0 ∧ Below W0.heap.size W0 wx)
  case first =>
    as_aux_lemma =>
      go_wp2_with fail
      (refine wp_region_calm [] [0, 1, 2, 3] 3 (by kernel_rfl) rfl (by kernel_rfl) (by kernel_rfl) (by kernel_rfl) ?_; simp only [pickB, List.filterMap_cons, List.filterMap_nil, List.getElem?_toArray, List.getElem?_cons_zero, List.getElem?_cons_succ]; (repeat (first | ((first | (with_reducible refine quietL_plain rfl (fun K hK => ?_)) | (with_reducible refine quietL_want (by with_unfolding_all rfl) (fun K hK => ?_))); (apply Exists.intro; refine ⟨fun wx hx => ?_, ?_⟩; (· (have hcx := ifs_ex hx); simp [go_sem, *, ↓IntWalk.iteOmega] <;> (first | rfl | exact ⟨rfl, rfl⟩ | (first | (with_reducible exact calls_B (within_b _ _ _ _)) | (with_reducible exact calls_B (HCk.out _ (HL0.out.trans ((Ex.low hx).mono HL0.out.size))))))); (simp only [Act.put, List.setIfInBounds_toArray, List.set_cons_zero, List.set_cons_succ]; refine hK _ ?_; clear hK K))) | ((with_reducible refine quietL_skip (by with_unfolding_all rfl) ?_); simp only [Act.put, List.setIfInBounds_toArray, List.set_cons_zero, List.set_cons_succ]))); refine quietL_nil ?_)
      rw [e2]
      refine anyB_one (i := 4) (by kernel_rfl) rfl rfl ?_
      intro w1 hb1 K hK
      have HP1 := Lib.hid (hb1.trans (((Below.refl _ _).alloc (Nat.le_refl _) (.cells #[.int .i64 0, .int .i64 0] 31)).mono hb1.size))
      have HF := Lib.hid (Blk.new w1 31 #[.int .i64 0, .int .i64 0])
      go_wp2
      refine ⟨Ex.of_below HP1.out, ?_⟩
      clear hb1
      refine anyB_one (i := 5) (by kernel_rfl) rfl rfl ?_
      intro w2 hb2 K hK
      have HP2 := Lib.hid (HP1.out.trans (hb2.mono HP1.out.size))
      have HF2 := HF.out.kept hb2
      have hr2 : Reads w2 (w1.heap.size + 1) 1 (some ⟨w1.heap.size, 0, none⟩) 2 (([0, 0] : List Int).map (.int .i64)) := Reads.blk HF2 rfl
      go_wp2_with fail
      refine (pfirst_any _ _ 2 2 [0, 0] w2 hr2 (by unfold maxLen; omega)).mono ?_
      rw [show firstE [0, 0] = 0 from rfl]
      rintro e w3 ⟨rfl, rfl⟩
      go_wp2
      have hx2 := Ex.of_below (X := []) HP2.out
      refine ⟨hx2, ?_⟩
      clear hb2
      (refine anyB_one (i := 6) (by kernel_rfl) rfl rfl ?_; intro w4 hb4 K hK; have hs4 := hb4.size; (try simp at hs4); go_wp2; refine ⟨xs_, ?_⟩)
      (refine anyB_end (by kernel_rfl) ?_; intro w5 hb5; have hs5 := hb5.size; (try simp at hs5); simp only [Calm])
      have HP5 := Lib.hid ((HP2.out.trans (hb4.mono HP2.out.size)).trans (hb5.mono (by have := HP2.out.size; omega)))
      go_wp2_with fail
      go_meet
      case rel => exact ⟨rfl, HP5.out⟩
  as_aux_lemma =>
    rename World => W1
    obtain ⟨rfl, hb⟩ := hcut
    have HB1 := Lib.hid (HB0.out.kept hb)
    have HL1 := Lib.hid (HL0.out.trans (hb.mono HL0.out.size))
    clear cB lB hb HB0 HL0
    have cB := HB1.out.cell
    have lB := HB1.out.lt
    go_wp2_with fail
    refine (CloneT_any B A n c (tls l) W1 (HR.out.below (HL1.out.mono hB)) (by have := HL1.out.size; omega) (fun u hu => by
      unfold tls at hu
      obtain ⟨t, _, ht⟩ := List.mem_flatMap.1 hu
      simp [Tl.cells, telC] at ht
      rcases ht with rfl | rfl | rfl | rfl | rfl | rfl <;> rfl) (by omega)).mono ?_
    rintro e W2 ⟨v, rfl, ho, hb⟩
    obtain ⟨A2, c2, rfl, hc2, _, hr2⟩ := own_form ho
    have HB2 := Lib.hid (HB1.out.kept hb)
    have HL2 := Lib.hid (HL1.out.trans (hb.mono HL1.out.size))
    have HR2 := Lib.hid hr2
    clear cB lB hb HB1 HL1 ho hr2
    have cB := HB2.out.cell
    have lB := HB2.out.lt
    have HD := Lib.hid (DeleteT_any 77 #[.pointer (some ⟨w.heap.size, 0, none⟩)] W2.heap.size A2 n c2 l (fun x => x.s != 7) W2 HR2.out (Nat.le_refl _) (by omega) (enters_of Tryz.func77 (by kernel_rfl) rfl) (fun W hW x _ => lostc_any 7 w.heap.size x W (HB2.out.kept hW)) (fun x hx => by rw [HSv.out x hx]; rfl))
    go_wp2_with fail
    refine HD.out.mono ?_
    rintro e W3 ⟨rfl, hb⟩
    have HB3 := Lib.hid (HB2.out.kept hb)
    have HL3 := Lib.hid (HL2.out.trans (hb.mono HL2.out.size))
    have hr3 := (HR2.out.below hb).more hb.size
    have hat := (tl_at hr3).2
    have HAt := Lib.hid hat
    clear cB lB hb HB2 HL2 HR2 HD hr3 hat
    go_wp2_with fail
    go_step3
    go_wp2_with fail
    go_loopw [8, 9, 10, 11] (fun s8 s9 s10 s11 wr => ∃ (j : Nat) (v x : Value), s8 = v ∧ s9 = .bool false ∧ s10 = .int .i64 ((j : Int) + 1) ∧ s11 = x ∧ j ≤ n ∧ wr.ownsRow W3.heap.size 3 1 v (lostL ((l.map Tl.c).take (j + 1))).length ((lostL ((l.map Tl.c).take (j + 1))).map (.int .i64)) ∧ Below W3.heap.size W3 wr) (fun _ _ s10 _ _ => n + 1 - (intOf s10).toNat)
    case atStart =>
      refine ⟨0, _, _, rfl, rfl, rfl, rfl, by omega, ?_, Below.refl _ _⟩
      have e0 : lostL ((l.map Tl.c).take (0 + 1)) = [] := by
        match l with
        | [] => rfl
        | x :: r => rfl
      rw [e0]
      exact World.ownsRow_nil _ _ _ _
    case round =>
      as_aux_lemma =>
        obtain ⟨j, v, x, rfl, rfl, rfl, rfl, hj, ho, hb⟩ := hrel
        have HO := Lib.hid ho
        have HBr := Lib.hid hb
        have hsr := hb.size
        clear ho hb
        by_cases hlt : j + 1 < n
        · skip
          as_aux_lemma =>
            have hjl : j + 1 < l.length := by rw [HLn.out]; exact hlt
            obtain ⟨b, o, eA, hbb, _, z1, _⟩ := HAt.out j (by omega)
            obtain ⟨b', o', eA', _, _, y1, _⟩ := HAt.out (j + 1) hjl
            subst eA
            cases eA'
            have kb : ∀ i, wr.cell? ⟨b, i, none⟩ = W3.cell? ⟨b, i, none⟩ := fun i => HBr.out.cell (p := ⟨b, i, none⟩) (by simp; omega)
            have Y1 := Lib.hid y1
            rw [← kb] at z1 y1
            clear kb
            have hjm : j + 1 < (l.map Tl.c).length := by simpa using hjl
            have HT := Lib.hid (lostL_take (l.map Tl.c) (i := j + 1) (by omega) hjm)
            simp only [Nat.add_sub_cancel] at HT
            have hup := HCt.out.up j hjm
            have hlo := HCt.out.lo _ (List.getElem_mem (l := l.map Tl.c) (n := j) (by omega))
            have hlo2 := HCt.out.lo _ (List.getElem_mem hjm)
            have HBd := Lib.hid (lostL_bd _ HCt.out (j + 1) (by omega))
            rw [List.getElem_map, List.getElem_map] at HT hup
            rw [List.getElem_map] at hlo hlo2
            generalize l[j].c = a at *
            generalize l[j + 1].c = d at *
            generalize lostL ((l.map Tl.c).take (j + 1)) = L at *
            obtain ⟨hup1, hup2⟩ := hup
            obtain ⟨hlo1, _⟩ := hlo
            obtain ⟨_, hlo4⟩ := hlo2
            have ha1 := and_word (z := a + 1) (by omega)
            have hdj : decide ((j : Int) + 1 < (n : Int)) = true := by simp; omega
            have hgl := gapL_len a d
            have HG := Lib.hid (fun (m : Nat) (h : m < (gapL a d).length) => gapL_at a d h)
            generalize gapL a d = G at *
            go_wp2_with fail
            go_loopw [8, 9, 11] (fun s8 s9 s11 wx => ∃ (m : Nat) (v : Value), s8 = v ∧ s9 = .bool false ∧ s11 = .int .i64 (a + 1 + (m : Int)) ∧ m ≤ G.length ∧ wx.ownsRow W3.heap.size 3 1 v (L.length + m) ((L ++ G.take m).map (.int .i64)) ∧ Below W3.heap.size W3 wx) (fun _ _ s11 _ => d.toNat - (intOf s11).toNat)
            case atStart => exact ⟨0, _, rfl, rfl, by simp, Nat.zero_le _, by simpa using HO.out, HBr.out⟩
            case round =>
              obtain ⟨m, v, rfl, rfl, rfl, hm, ho, hb⟩ := hrel
              have HO2 := Lib.hid ho
              have HB2 := Lib.hid hb
              have hs2 := hb.size
              have y2 := (hb.cell (p := ⟨b, o + (j + 1) * 6 + 1, none⟩) (by simp; omega)).trans Y1.out
              clear ho hb z1 y1
              by_cases hlm : m < G.length
              · have hne : (a + 1 + (m : Int) != d) = true := by
                  have : a + 1 + (m : Int) ≠ d := by omega
                  simpa using this
                have ha2 := and_word (z := a + 1 + (m : Int) + 1) (by omega)
                have Hgm := Lib.hid (HG.out m hlm)
                have HTm := Lib.hid (List.take_succ_eq_append_getElem hlm)
                have h256 : ¬ ((L.length : Int) + (m : Int) = 256) := by have := HBd.out; omega
                have h256' : ¬ (L.length + m = 256) := by have := HBd.out; omega
                have hbd := HBd.out
                obtain ⟨Av, cv, rfl, _, _, _⟩ := own_form HO2.out
                go_wp2_with (at_builtin; refine wpList_app 73 3 1 8 elemInt rfl (.tmp 52) (.tmp 54) rfl W3.heap.size _ (L.length + m) _ rfl HO2.out 1 rfl rfl ?h1 (by decide) ?h3 ?h4 (by omega) ?_)
                case h1 => rfl
                case h3 => unfold maxLen; omega
                case h4 => omega
                intro g' cap' w' hown' hb' _ hs'
                have HO3 := Lib.hid hown'
                have HB3 := Lib.hid (HB2.out.trans hb')
                clear hown' hb'
                go_wp2_with fail
                go_roundw
                case rel => exact ⟨m + 1, _, rfl, rfl, by go_num, by omega, by have h7 := HO3.out; rw [HTm.out, Hgm.out]; simpa [Nat.add_assoc, List.map_append, List.append_assoc] using h7, HB3.out⟩
                case measure => simp [intOf]; omega
              · have hme : m = G.length := by omega
                have hne : (a + 1 + (m : Int) != d) = false := by
                  have : a + 1 + (m : Int) = d := by omega
                  simpa using this
                have h6 := HO2.out
                rw [hme, List.take_of_length_le (Nat.le_refl _), ← List.length_append] at h6
                have H6 := Lib.hid h6
                clear h6
                go_wp2_with fail
                go_roundw
                case rel => exact ⟨j + 1, _, _, rfl, rfl, by go_num, rfl, by omega, by rw [HT.out]; exact H6.out, HB2.out⟩
                case measure => simp [intOf]; omega
        · skip
          as_aux_lemma =>
            have hle : (l.map Tl.c).length ≤ j + 1 := by rw [List.length_map, HLn.out]; omega
            have h6 := HO.out
            rw [List.take_of_length_le hle] at h6
            have H6 := Lib.hid h6
            have HLo := Lib.hid (HL3.out.trans (HBr.out.mono HL3.out.size))
            have hsz := HL3.out.size
            clear h6
            go_wp2_with fail
            (try rw [Exit.noGoto_ret])
            go_ret2
            exact ⟨_, rfl, row_base H6.out hsz, HLo.out⟩
end Go.Proofs.YtafnebfchhmgcaaGreat
