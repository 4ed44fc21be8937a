/- Reference: Parse of an arm's text. -/
import Derived.Test.YtjanojmgnpfjeaaGreatDoorSN
import Derived.Test.YtjanojmgnpfjeaaGreatDoorSR
import Derived.Deep.DeepCutAuto
import Derived.Deep.CutBlock
namespace Go.Proofs.YtjanojmgnpfjeaaGreatDoor
open Go.RowKit Go.Sort Go.Shelf
set_option linter.unusedSimpArgs false
set_option linter.unusedVariables false
attribute [local go_sem] cell_if frozen_if grow_cell
theorem Own.same {w w' : World} {base size g l cap : Nat} {e : TypeId} {xs : List Value} (h : Own w base e size g l cap xs) (hb : w'.heap[g]? = w.heap[g]?) : Own w' base e size g l cap xs := by
  obtain ⟨h1, h2⟩ := h
  refine ⟨h1, ?_⟩
  rcases h2 with h2 | ⟨g', cap', cur, hv, hg, hh, r⟩
  · exact Or.inl h2
  · have e' : g' = g := by injection hv with h1; injection h1 with h1; injection h1 with h1; exact h1.symm
    subst e'
    exact Or.inr ⟨g', cap', cur, hv, hg, hb.trans hh, r⟩
/-- An arm in a variable g of the reference, whose row is the call's own. -/
structure ArR (base g : Nat) (y : Ar) (v : Value) (W : World) : Prop where
  box : Blk W g 26 #[v, .int .i64 y.lo, .int .i64 y.hi, .int .i64 y.cur, .int .i64 y.lim]
  r0 : W.ownsRow base 109 4 v y.m.length (mds y.m)
section
variable {base g : Nat} {y : Ar} {v : Value} {w W W' : World}
theorem ArR.keep (h : ArR base g y v W) (hk : ∀ k t d, Blk W k t d → (k = g ∨ t = 109) → W'.heap[k]? = W.heap[k]?) : ArR base g y v W' :=
  ⟨(hk g _ _ h.box (.inl rfl)).trans h.box, row_kept h.r0 fun j d hj => hk j _ d hj (.inr rfl)⟩
theorem ArR.kept (h : ArR base g y v W) (hb : Below W.heap.size W W') : ArR base g y v W' := h.keep fun k _ _ hd _ => hb.block k hd.lt
/-- The first line: all but the row is set. -/
theorem ArR.head (h : ArR base g nilA v W) (a b c d : Int) : ArR base g ⟨[], a, b, c, d⟩ (.slice none 0 0) (((((W.setCell ⟨g, 0, none⟩ (.slice none 0 0)).setCell ⟨g, 1, none⟩ (.int .i64 a)).setCell ⟨g, 2, none⟩ (.int .i64 b)).setCell ⟨g, 3, none⟩ (.int .i64 c)).setCell ⟨g, 4, none⟩ (.int .i64 d)) :=
  ⟨put5_blk h.box, World.ownsRow_nil _ _ _ _⟩
theorem ArR.app (h : ArR base g y v W) {x : Md} {g' cap : Nat} (hg : W.grownBy W' v.ownBlock) (ho : Own W' base 109 4 g' (y.m.length + 1) cap (mds y.m ++ x.cells)) :
    ArR base g { y with m := y.m ++ [x] } (.slice (some ⟨g', 0, none⟩) (y.m.length + 1) cap) (W'.setCell ⟨g, 0, none⟩ (.slice (some ⟨g', 0, none⟩) (y.m.length + 1) cap)) := by
  have hbox : Blk W' g 26 #[v, .int .i64 y.lo, .int .i64 y.hi, .int .i64 y.cur, .int .i64 y.lim] := h.box.grown hg (own_neT h.r0 h.box (by decide))
  have e : mds (y.m ++ [x]) = mds y.m ++ x.cells := by simp [mds]
  refine ⟨hbox.set_ 0 _, ?_⟩
  show (W'.setCell _ _).ownsRow base _ 4 _ (y.m ++ [x]).length (mds (y.m ++ [x]))
  rw [e, List.length_append]
  exact row_set ho hbox (by decide)
end
/-- Between two lines: the arm so far, the result as it was laid, the lines. -/
structure RpI (b go g cap : Nat) (ls : List ByteArray) (w : World) (z : Ar) (W : World) : Prop where
  ar : ∃ v, ArR (go + 1) go z v W
  q2 : Blk W b 26 #[.slice none 0 0, .int .i64 0, .int .i64 0, .int .i64 0, .int .i64 0]
  ln : Own W (b + 1) 9 1 g ls.length cap (ls.map .string)
  lt : g < go
  lb : b < go
  low : Below b w W
  le : go + 1 ≤ W.heap.size
theorem RpI.kept {b go g cap : Nat} {ls : List ByteArray} {w W W' : World} {z : Ar} (h : RpI b go g cap ls w z W) (hb : Below W.heap.size W W') : RpI b go g cap ls w z W' := by
  obtain ⟨v, hy⟩ := h.ar
  exact ⟨⟨v, hy.kept hb⟩, h.q2.kept hb, h.ln.kept hb, h.lt, h.lb, h.low.trans (hb.mono (by have := h.le; have := h.lb; omega)), Nat.le_trans h.le hb.size⟩
/-- What is left alone when the arm grows: all below go + 1 but for go. -/
structure FrR (go : Nat) (w W : World) : Prop where
  os : W.os = w.os
  tape : W.tape = w.tape
  output : W.output = w.output
  size : w.heap.size ≤ W.heap.size
  low : ∀ k, k < go → W.heap[k]? = w.heap[k]?
theorem RpI.after {b go g cap : Nat} {ls : List ByteArray} {w W W' : World} {z z' : Ar} (h : RpI b go g cap ls w z W) {v : Value} (hY : ArR (go + 1) go z' v W') (hF : FrR go W W') : RpI b go g cap ls w z' W' := by
  have hl := h.lb
  have hg := h.lt
  exact ⟨⟨v, hY⟩, (hF.low _ (by omega)).trans h.q2, h.ln.same (hF.low _ (by omega)), h.lt, h.lb, h.low.trans ⟨hF.os, hF.tape, hF.output, hF.size, fun k hk => hF.low k (by omega)⟩, Nat.le_trans h.le hF.size⟩
section
variable {go : Nat} {w W W' : World}
theorem FrR.refl (go : Nat) (w : World) : FrR go w w := ⟨rfl, rfl, rfl, Nat.le_refl _, fun _ _ => rfl⟩
theorem FrR.below (h : FrR go w W) (hg : go ≤ W.heap.size) (hb : Below W.heap.size W W') : FrR go w W' :=
  ⟨hb.os.trans h.os, hb.tape.trans h.tape, hb.output.trans h.output, Nat.le_trans h.size hb.size, fun k hk => (hb.block k (by omega)).trans (h.low k hk)⟩
theorem FrR.set (h : FrR go w W) (i : Nat) (u : Value) : FrR go w (W.setCell ⟨go, i, none⟩ u) :=
  ⟨h.os, h.tape, h.output, by simpa [World.setCell] using h.size, fun k hk => (Below.heap_setCell W _ u k (show k ≠ go by omega)).trans (h.low k hk)⟩
theorem FrR.grown (h : FrR go w W) {v : Value} {e size n : Nat} {xs : List Value} (hr : W.ownsRow (go + 1) e size v n xs) (hg : W.grownBy W' v.ownBlock) (hs : go ≤ W.heap.size) : FrR go w W' :=
  ⟨hg.os.trans h.os, hg.tape.trans h.tape, hg.output.trans h.output, Nat.le_trans h.size hg.size, fun k hk => (hg.block k (by omega) (fun e => by
    have := (own_row hr e.symm).1
    omega)).trans (h.low k hk)⟩
end
theorem empty_b (x : ByteArray) : (x.toList == []) = x.toList.isEmpty := by cases x.toList <;> rfl
theorem len4s {ws : List ByteArray} (h : ws.length = 4) : ∃ a b c d, ws = [a, b, c, d] := by
  match ws, h with
  | [a, b, c, d], _ => exact ⟨a, b, c, d, rfl⟩
theorem len5s {ws : List ByteArray} (h : ws.length = 5) : ∃ a b c d e, ws = [a, b, c, d, e] := by
  match ws, h with
  | [a, b, c, d, e], _ => exact ⟨a, b, c, d, e, rfl⟩
theorem digR_ok {x : ByteArray} (h : digOk x = true) : decV x.data.toList = digR x := by
  have h : intOk x.data.toList = true := h
  unfold digR
  rw [h]
  rfl
/-- A struct that is built, as a quiet operation. -/
theorem quiet_bl {P : Program} {o : Oper} {a : Act} {w : World} {G : World → Prop} (t : TypeId) (parts : Array (Nat × Operand)) (vs : List (Nat × Value)) (cells : Array Value) (ho : o.op = .build t parts) (hx : (parts.toList.map fun (i, x) => (i, a.eval x)) = vs) (hr : P.built t vs = some cells) : Oper.quietUpon P G w (.agg cells) ((execOp a.eval o).run P w) := by
  have hx' : (parts.map fun (i, x) => (i, a.eval x)).toList = vs := by rw [Array.toList_map]; exact hx
  rw [← hx'] at hr
  unfold execOp
  simp only [ho, Sem.run_bind, run_build w t _ cells hr, Result.andThen_ok]
  exact ⟨rfl, rfl⟩
/-- A result in a box, and two more. -/
theorem res_p3 {fn : Func} {p q r b : Nat} {tmps : Array Value} {W : World} {v0 v1 v2 v3 v4 u1 u2 : Value} (hr : fn.results = #[.cell p 26, .tmp q, .tmp r]) (hp : tmps[p]?.getD undef = .pointer (some ⟨b, 0, none⟩)) (h1 : tmps[q]?.getD undef = u1) (h2 : tmps[r]?.getD undef = u2) (hk : Blk W b 26 #[v0, v1, v2, v3, v4]) :
    (results fn tmps).run Tryz.prog W = .ok (.tuple #[.agg #[v0, v1, v2, v3, v4], u1, u2]) W := by
  have c0 : W.cell? ⟨b, 0, none⟩ = some v0 := hk.cell 0
  have c1 : W.cell? ⟨b, 1, none⟩ = some v1 := hk.cell 1
  have c2 : W.cell? ⟨b, 2, none⟩ = some v2 := hk.cell 2
  have c3 : W.cell? ⟨b, 3, none⟩ = some v3 := hk.cell 3
  have c4 : W.cell? ⟨b, 4, none⟩ = some v4 := hk.cell 4
  clear hk
  unfold results
  rw [hr]
  simp [go_sem, hp, h1, h2, c0, c1, c2, c3, c4]
def stL : List ByteArray := [⟨#[111, 110]⟩, ⟨#[111, 102, 102]⟩, ⟨#[98, 121, 112, 97, 115, 115, 101, 100]⟩]
theorem hasW_st (x : ByteArray) : hasW stL x = stW x.toList := by
  unfold hasW stL stW
  simp only [List.any_cons, List.any_nil, Bool.or_false]
  have e1 : (⟨#[111, 110]⟩ : ByteArray).toList = onW := by rw [toList_data]; rfl
  have e2 : (⟨#[111, 102, 102]⟩ : ByteArray).toList = offW := by rw [toList_data]; rfl
  have e3 : (⟨#[98, 121, 112, 97, 115, 115, 101, 100]⟩ : ByteArray).toList = bypW := by rw [toList_data]; rfl
  rw [e1, e2, e3]
  have hs : ∀ a b : List UInt8, (a == b) = (b == a) := fun a b => Bool.eq_iff_iff.2 ⟨fun h => by rw [eq_of_beq h]; exact beq_self_eq_true _, fun h => by rw [eq_of_beq h]; exact beq_self_eq_true _⟩
  rw [hs onW, hs offW, hs bypW, Bool.or_assoc]
def parseL (ls : List ByteArray) : Ar × Nat × Int := if ls.length = 1 then (nilA, 0, 25) else goA nilA 0 ls
theorem goA_last (z : Ar) (i : Nat) (l : ByteArray) : goA z i [l] = if l.toList == [] then (if armE z = 0 then (z, 0, 0) else (nilA, i, armE z)) else (nilA, i, 25) := rfl
theorem goA_ok {z : Ar} {i : Nat} {l m : ByteArray} {r : List ByteArray} (h : (rowA z i (spL l 32)).1 = true) : goA z i (l :: m :: r) = goA (rowA z i (spL l 32)).2 (i + 1) (m :: r) := if_pos h
theorem goA_no {z : Ar} {i : Nat} {l m : ByteArray} {r : List ByteArray} (h : (rowA z i (spL l 32)).1 = false) : goA z i (l :: m :: r) = (nilA, i, 25) := if_neg (by rw [h]; decide)
theorem drop_two {ls : List ByteArray} {k m : Nat} (hm : ls.length = m + 1) (hk : k < m) (hkl : k < ls.length) : ∃ m2 r2, ls.drop k = ls[k] :: m2 :: r2 ∧ ls.drop (k + 1) = m2 :: r2 := by
  have hk2 : k + 1 < ls.length := by omega
  exact ⟨ls[k + 1], ls.drop (k + 1 + 1), by rw [List.drop_eq_getElem_cons hkl, List.drop_eq_getElem_cons hk2], by rw [List.drop_eq_getElem_cons hk2]⟩
set_option maxRecDepth 100000 in
theorem rParse_long (s : ByteArray) (w : World) (hs : 4096 < s.size) : Calls Tryz.prog 26 #[.string s] w (PaRes w (nilA, 0, 26)) := by
  have h1 : (4096 : Int) < (s.size : Int) := by omega
  go_enter Tryz.func26, Tryz.ntmps26
  go_wp2_with fail
  refine bodyPost_ret (v := .tuple #[.agg #[.slice none 0 0, .int .i64 0, .int .i64 0, .int .i64 0, .int .i64 0], .int .i64 0, .int .i64 26]) ?_ rfl (pa_nil 0 26 bl_)
  have ck := (Blk.new w 26 #[.slice none 0 0, .int .i64 0, .int .i64 0, .int .i64 0, .int .i64 0]).cell
  simp [results, Tryz.results26, go_sem, ck]
set_option maxRecDepth 100000 in
set_option maxHeartbeats 80000000 in
theorem rParse_short (s : ByteArray) (w : World) (hs : s.size ≤ 4096) (hpn : (spL s 10).length ≤ 301) : Calls Tryz.prog 26 #[.string s] w (PaRes w (parseA s)) := by
  have h1 : ¬ (4096 : Int) < (s.size : Int) := by omega
  have hPA : Hid (parseA s = parseL (spL s 10)) := Lib.hid (by unfold parseA parseL; rw [if_neg (by omega)])
  have hsl := spTo_len s 10 s.size
  have hsb := spTo_b s 10 s.size (Nat.le_refl _)
  have HSp := Lib.hid (fun x W (hx : x.size ≤ 4096) (c : Nat) => Split_any x c W (by omega))
  change 0 < (spL s 10).length ∧ (spL s 10).length ≤ s.size + 1 at hsl
  change ∀ x ∈ spL s 10, x.size ≤ s.size at hsb
  have HSs := Lib.hid (fun W => Split_any s 10 W (by omega))
  rw [hPA.out]
  clear hPA
  generalize spL s 10 = ls at *
  have hsb' : ∀ x ∈ ls, x.size ≤ 4096 := fun x hx => Nat.le_trans (hsb x hx) hs
  have HSB := Lib.hid hsb'
  clear hsb hsb'
  go_enter Tryz.func26, Tryz.ntmps26
  go_wp2_with fail
  refine (HSs.out _).mono ?_
  rintro e w1 ⟨g, cap, rfl, hO, hb1⟩
  have hs1 := hb1.size
  have q1 : Blk w1 w.heap.size 26 #[.slice none 0 0, .int .i64 0, .int .i64 0, .int .i64 0, .int .i64 0] := (Blk.new w _ _).kept hb1
  simp at hs1
  have hO' : Own w1 (w.heap.size + 1) 9 1 g ls.length cap (ls.map .string) := by simpa using hO
  have H0 : Hid (RpI w.heap.size w1.heap.size g cap ls w nilA (w1.alloc (.cells #[.slice none 0 0, .int .i64 0, .int .i64 0, .int .i64 0, .int .i64 0] 26))) := Lib.hid
    ⟨⟨.slice none 0 0, Blk.new _ _ _, World.ownsRow_nil _ _ _ _⟩, q1.alloc _, hO'.alloc _, hO'.lt.2, by omega, bl_, by simp⟩
  clear q1 hO hO' hb1
  obtain ⟨m, hm⟩ : ∃ m, ls.length = m + 1 := ⟨ls.length - 1, by omega⟩
  rw [hm]
  have HM := Lib.hid hm
  have hm300 : m ≤ 300 := by omega
  clear hsl hm
  go_wp2_with fail
  go_loopw [7, 8, 9, 10, 11, 12] (fun i _ _ _ _ _ wr => ∃ (k : Nat) (z : Ar), k ≤ m ∧ i = .int .i64 (k : Int) ∧ Hid (goA nilA 0 ls = goA z k (ls.drop k) ∧ LenA k 4096 z ∧ (k = 0 → z = nilA)) ∧ RpI w.heap.size w1.heap.size g cap ls w z wr) (fun i _ _ _ _ _ _ => m - (intOf i).toNat)
  case atStart => exact ⟨0, nilA, Nat.zero_le _, rfl, Lib.hid ⟨rfl, lenA_nil _, fun _ => rfl⟩, H0.out⟩
  case round =>
    clear H0
    obtain ⟨k, z, hk, rfl, hz, hR⟩ := hrel
    have HR := Lib.hid hR
    have hlow := hR.low.size
    have hgl := hR.lt
    have hbl := hR.lb
    have hle := hR.le
    clear hR
    have hwr : IntKind.i64.wrap ((m : Int) + 1 - 1) = (m : Int) := by rw [IntKind.wrap_i64]; omega
    by_cases hlt : k < m
    · skip
      as_aux_lemma =>
        have hkl : k < ls.length := by rw [HM.out]; omega
        have hlv := own_live HR.out.ln k (by rw [HM.out]; omega)
        have cl : wr.cell? ⟨g, k, none⟩ = some (.string ls[k]) := by rw [hlv.1, List.getElem?_map, List.getElem?_eq_getElem hkl]; rfl
        have hl3 := HSB.out _ (List.getElem_mem hkl)
        have hki : (k : Int) < (m : Int) := by omega
        have hkn : (k : Int) < (m : Int) + 1 := by omega
        have hwb := spTo_b ls[k] 32 ls[k].size (Nat.le_refl _)
        have hwl := spTo_len ls[k] 32 ls[k].size
        change 0 < (spL ls[k] 32).length ∧ (spL ls[k] 32).length ≤ ls[k].size + 1 at hwl
        change ∀ x ∈ spL ls[k] 32, x.size ≤ ls[k].size at hwb
        obtain ⟨m2, r2, hd1, hd2⟩ := drop_two HM.out hlt hkl
        have HNe : Hid (ls.length ≠ 1) := Lib.hid (by rw [HM.out]; omega)
        have HPL : Hid (parseL ls = goA nilA 0 ls) := Lib.hid (if_neg HNe.out)
        have HOK : Hid ((rowA z k (spL ls[k] 32)).1 = true → goA nilA 0 ls = goA (rowA z k (spL ls[k] 32)).2 (k + 1) (ls.drop (k + 1))) := Lib.hid (fun h => by rw [hz.out.1, hd1, hd2, goA_ok h])
        have HNO : Hid ((rowA z k (spL ls[k] 32)).1 = false → parseL ls = (nilA, k, 25)) := Lib.hid (fun h => by rw [HPL.out, hz.out.1, hd1, goA_no h])
        clear hd1 hd2 hlv
        have HSk := Lib.hid (fun W => HSp.out ls[k] W hl3 32)
        generalize spL ls[k] 32 = ws at *
        have hwb' : ∀ x ∈ ws, x.size ≤ 4096 := fun x hx => Nat.le_trans (hwb x hx) hl3
        have HWB := Lib.hid hwb'
        have hwn : ws.length ≤ 4097 := by omega
        have hw0 : 0 < ws.length := hwl.1
        clear hwb hwb' hwl HPL
        generalize ls[k] = l at *
        go_wp2_with fail
        refine (HSk.out _).mono ?_
        rintro e w2 ⟨g2, cap2, rfl, hO2, hb2⟩
        have HO2 := Lib.hid hO2
        have HR2 := Lib.hid (HR.out.kept hb2)
        clear hO2 hb2 HR HSk
        by_cases hk0 : k = 0
        · skip
          as_aux_lemma =>
            subst hk0
            have HRow : Hid (rowA z 0 ws = (headR ws, headV z ws)) := Lib.hid rfl
            have hcap := own_form (show w2.ownsRow wr.heap.size 9 1 (.slice (some ⟨g2, 0, none⟩) ws.length cap2) ws.length (ws.map .string) from HO2.out)
            obtain ⟨A2, c2, e2, hc2, hcm, hrd2⟩ := hcap
            cases e2
            have hsz2 := hrd2
            have HD : Hid (∃ A c, (if cap2 = 1 then Value.slice (some ⟨g2, 0, none⟩) (ws.length - 1) 0 else Value.slice (some ⟨g2, 1, none⟩) (ws.length - 1) (cap2 - 1)) = .slice A (ws.length - 1) c ∧ Reads w2 w2.heap.size 1 A (ws.length - 1) ((ws.drop 1).map .string)) := Lib.hid (by
              obtain ⟨hl, hat⟩ := enc_at hrd2
              by_cases h1 : cap2 = 1
              · rw [if_pos h1]
                have hl1 : ws.length = 1 := by omega
                have hd : ws.drop 1 = [] := List.drop_eq_nil_of_le (by omega)
                rw [hd, hl1]
                exact ⟨_, _, rfl, Reads.nil_⟩
              · rw [if_neg h1]
                refine ⟨_, _, rfl, by simp, fun h0 => ⟨g2, 1, rfl, ?_, fun j u hu => ?_⟩⟩
                · obtain ⟨b, o, e, hb, _⟩ := hat 0 (by omega)
                  cases e
                  exact hb
                · rw [List.getElem?_map, List.getElem?_drop] at hu
                  obtain ⟨x, hx, rfl⟩ := Option.map_eq_some_iff.1 hu
                  have hj := (List.getElem?_eq_some_iff.1 hx).1
                  obtain ⟨b, o, e, _, hcell⟩ := hat (1 + j) hj
                  cases e
                  rw [Nat.zero_add] at hcell
                  rw [hcell, ← (List.getElem?_eq_some_iff.1 hx).2])
            obtain ⟨A3, c3, hA3, hrd3⟩ := HD.out
            have HDg := Lib.hid (fun W (hW : Below w2.heap.size w2 W) => digits_any W.heap.size A3 (ws.length - 1) c3 (ws.drop 1) W ((hrd3.below hW).more hW.size) (Nat.le_refl _) (by omega) (fun x hx => Nat.le_trans (HWB.out x (List.mem_of_mem_drop hx)) (by unfold maxLen; decide)))
            clear hrd3 HD hsz2 hrd2
            obtain ⟨dk, hdk⟩ : ∃ dk, (ws.drop 1).all digOk = dk := ⟨_, rfl⟩
            rw [hdk] at HDg
            have HDK := Lib.hid hdk
            clear hdk
            obtain ⟨n2, hn2⟩ : ∃ n2, ws.length = n2 := ⟨_, rfl⟩
            have HN2 := Lib.hid hn2
            rw [hn2] at HDg hA3 hc2
            have hw0' : 0 < n2 := by omega
            have hwn' : n2 ≤ 4097 := by omega
            rw [hn2]
            clear hw0 hwn hn2
            go_upto_region 10 with fail
            go_cut [9, 10] (fun s9 s10 W => s10 = .bool dk ∧ (dk = true → W.ownsRow w2.heap.size 3 1 s9 (n2 - 1) ((ws.drop 1).map fun x => Value.int .i64 (digR x))) ∧ Below w2.heap.size w2 W)
            case first =>
              as_aux_lemma =>
                by_cases hc1 : cap2 = 1
                · rw [if_pos hc1] at hA3
                  subst hc1
                  injection hA3 with e1 e2 e3
                  subst e1
                  subst e3
                  have hl1 : n2 = 1 := by omega
                  subst hl1
                  clear hc2 hcm HNO HOK HRow
                  go_wp2_with fail
                  refine (HDg.out _ (Below.refl _ _)).mono ?_
                  rintro e w3 ⟨v3, rfl, hv3, hb3⟩
                  have HV3 := Lib.hid hv3
                  clear hv3
                  go_wp2_with fail
                  go_meet
                  case rel => exact ⟨rfl, HV3.out, hb3⟩
                · rw [if_neg hc1] at hA3
                  obtain ⟨cc, rfl⟩ : ∃ cc, cap2 = cc + 1 + 1 := ⟨cap2 - 2, by omega⟩
                  injection hA3 with e1 e2 e3
                  subst e1
                  subst e3
                  clear hc1 HNO HOK HRow
                  go_wp2_with fail
                  refine (HDg.out _ (Below.refl _ _)).mono ?_
                  rintro e w3 ⟨v3, rfl, hv3, hb3⟩
                  have HV3 := Lib.hid hv3
                  clear hv3
                  go_wp2_with fail
                  go_meet
                  case rel => exact ⟨rfl, HV3.out, hb3⟩
            rename World => w3
            obtain ⟨rfl, hv3, hb3⟩ := hcut
            have HV3 := Lib.hid hv3
            have HR3 := Lib.hid (HR2.out.kept hb3)
            have HO3 : Hid (Own w3 wr.heap.size 9 1 g2 n2 cap2 (ws.map .string)) := Lib.hid (by rw [← HN2.out]; exact own_kept (show w2.ownsRow wr.heap.size 9 1 (.slice (some ⟨g2, 0, none⟩) ws.length cap2) ws.length (ws.map .string) from HO2.out) hb3)
            have hs3 := hb3.size
            have HB3 := Lib.hid hb3
            have hle2 := HR2.out.le
            clear hv3 hb3 HR2 HO2 HDg hA3 hc2 hcm
            by_cases h5 : n2 = 5
            case neg =>
              as_aux_lemma =>
                have HNo := Lib.hid (HNO.out (by rw [HRow.out]; show headR ws = false; unfold headR; rw [show (ws.length == 5) = false by rw [HN2.out]; simpa using h5]; rfl))
                have h5i : ¬ (n2 : Int) = 5 := by omega
                have h5b : ((n2 : Int) == 5) = false := by simpa using h5i
                have h5c : ((n2 : Int) != 5) = true := by simpa using h5i
                clear HNO HOK HRow HV3 HO3 HDK
                have q2n := HR3.out.q2
                have c2n := q2n.cell
                have f2n := q2n.frozen
                have l2n := q2n.lt
                have HQ2 := Lib.hid (put5_blk (v0 := .slice none 0 0) (v1 := .int .i64 0) (v2 := .int .i64 0) (v3 := .int .i64 0) (v4 := .int .i64 0) q2n)
                have HLo := Lib.hid (put5_low (b := w.heap.size) (v0 := .slice none 0 0) (v1 := .int .i64 0) (v2 := .int .i64 0) (v3 := .int .i64 0) (v4 := .int .i64 0) HR3.out.low (Nat.le_refl _))
                clear q2n
                go_wp2_with fail
                refine bodyPost_ret (res_p3 Tryz.results26 rfl rfl rfl HQ2.out) rfl ?_
                rw [HNo.out]
                exact pa_nil _ _ HLo.out
            case pos =>
              subst h5
              obtain ⟨x0, x1, x2, x3, x4, rfl⟩ := len5s HN2.out
              have hw0g := (own_live HO3.out 0 (by simp)).1
              have c0 : w3.cell? ⟨g2, 0, none⟩ = some (.string x0) := hw0g
              have l0 : g2 < w3.heap.size := HO3.out.lt.2
              have HH : Hid (headR [x0, x1, x2, x3, x4] = ((x0.toList == [97, 114, 109]) && dk)) := Lib.hid (by
                rw [← HDK.out]
                rfl)
              clear hw0g HO3
              cases hx0 : (x0.toList == [97, 114, 109]) with
              | false =>
                as_aux_lemma =>
                  have HNo := Lib.hid (HNO.out (by rw [HRow.out]; show headR _ = false; rw [HH.out, hx0]; rfl))
                  clear HNO HOK HRow HV3 HDK HH
                  have q2n := HR3.out.q2
                  have c2n := q2n.cell
                  have f2n := q2n.frozen
                  have l2n := q2n.lt
                  have HQ2 := Lib.hid (put5_blk (v0 := .slice none 0 0) (v1 := .int .i64 0) (v2 := .int .i64 0) (v3 := .int .i64 0) (v4 := .int .i64 0) q2n)
                  have HLo := Lib.hid (put5_low (b := w.heap.size) (v0 := .slice none 0 0) (v1 := .int .i64 0) (v2 := .int .i64 0) (v3 := .int .i64 0) (v4 := .int .i64 0) HR3.out.low (Nat.le_refl _))
                  clear q2n
                  go_wp2_with fail
                  refine bodyPost_ret (res_p3 Tryz.results26 rfl rfl rfl HQ2.out) rfl ?_
                  rw [HNo.out]
                  exact pa_nil _ _ HLo.out
              | true =>
                cases dk with
                | false =>
                  as_aux_lemma =>
                    have HNo := Lib.hid (HNO.out (by rw [HRow.out]; show headR _ = false; rw [HH.out, hx0]; rfl))
                    clear HNO HOK HRow HV3 HDK HH
                    have q2n := HR3.out.q2
                    have c2n := q2n.cell
                    have f2n := q2n.frozen
                    have l2n := q2n.lt
                    have HQ2 := Lib.hid (put5_blk (v0 := .slice none 0 0) (v1 := .int .i64 0) (v2 := .int .i64 0) (v3 := .int .i64 0) (v4 := .int .i64 0) q2n)
                    have HLo := Lib.hid (put5_low (b := w.heap.size) (v0 := .slice none 0 0) (v1 := .int .i64 0) (v2 := .int .i64 0) (v3 := .int .i64 0) (v4 := .int .i64 0) HR3.out.low (Nat.le_refl _))
                    clear q2n
                    go_wp2_with fail
                    refine bodyPost_ret (res_p3 Tryz.results26 rfl rfl rfl HQ2.out) rfl ?_
                    rw [HNo.out]
                    exact pa_nil _ _ HLo.out
                | true =>
                  as_aux_lemma =>
                    have hz0 : z = nilA := hz.out.2.2 (by trivial)
                    subst hz0
                    have HOk := Lib.hid (HOK.out (by rw [HRow.out]; show headR _ = true; rw [HH.out, hx0]; rfl))
                    have HR3b : Hid (rowA nilA 0 [x0, x1, x2, x3, x4] = (headR [x0, x1, x2, x3, x4], ⟨[], digR x1, digR x2, digR x3, digR x4⟩)) := Lib.hid (by
                      rw [HRow.out]
                      have hd := HDK.out
                      have hd : [x1, x2, x3, x4].all digOk = true := hd
                      simp only [List.all_cons, List.all_nil, Bool.and_eq_true, Bool.and_true] at hd
                      obtain ⟨k1, k2, k3, k4⟩ := hd
                      show (headR _, (⟨[], decV x1.data.toList, decV x2.data.toList, decV x3.data.toList, decV x4.data.toList⟩ : Ar)) = _
                      rw [digR_ok k1, digR_ok k2, digR_ok k3, digR_ok k4])
                    have hr9o := HV3.out rfl
                    obtain ⟨A9, c9, rfl, _, _, hr9⟩ := own_form hr9o
                    obtain ⟨hl9, hat9⟩ := enc_at (enc := fun x => Value.int .i64 (digR x)) hr9
                    obtain ⟨b9, o9, rfl, hb9, z0⟩ := hat9 0 (by simp)
                    obtain ⟨b9', o9', e9, _, z1⟩ := hat9 1 (by simp)
                    cases e9
                    obtain ⟨b9', o9', e9, _, z2⟩ := hat9 2 (by simp)
                    cases e9
                    obtain ⟨b9', o9', e9, _, z3⟩ := hat9 3 (by simp)
                    cases e9
                    have hb9l : w2.heap.size ≤ b9 := (row_base_lt hr9o b9 rfl).1
                    have hb9n : w1.heap.size ≠ b9 := by omega
                    clear hr9o
                    have d0 : w3.cell? ⟨b9, o9, none⟩ = some (.int .i64 (digR x1)) := z0
                    have d1 : w3.cell? ⟨b9, o9 + 1, none⟩ = some (.int .i64 (digR x2)) := z1
                    have d2 : w3.cell? ⟨b9, o9 + 2, none⟩ = some (.int .i64 (digR x3)) := z2
                    have d3 : w3.cell? ⟨b9, o9 + 3, none⟩ = some (.int .i64 (digR x4)) := z3
                    clear z0 z1 z2 z3
                    obtain ⟨v6, hv6⟩ := HR3.out.ar
                    have HV6 := Lib.hid hv6
                    have c6 := hv6.box.cell
                    have f6 := hv6.box.frozen
                    have l6 := hv6.box.lt
                    clear HNO HOK HRow HDK HH hl9 hat9 hr9 HV3 hv6 hz
                    obtain ⟨q1, eq1⟩ : ∃ q, digR x1 = q := ⟨_, rfl⟩
                    rw [eq1] at d0 HR3b
                    clear eq1
                    obtain ⟨q2, eq2⟩ : ∃ q, digR x2 = q := ⟨_, rfl⟩
                    rw [eq2] at d1 HR3b
                    clear eq2
                    obtain ⟨q3, eq3⟩ : ∃ q, digR x3 = q := ⟨_, rfl⟩
                    rw [eq3] at d2 HR3b
                    clear eq3
                    obtain ⟨q4, eq4⟩ : ∃ q, digR x4 = q := ⟨_, rfl⟩
                    rw [eq4] at d3 HR3b
                    clear eq4
                    go_upto_region 13 with fail
                    go_cut [] (fun wx => Hid (ArR (w1.heap.size + 1) w1.heap.size ⟨[], q1, q2, q3, q4⟩ (.slice none 0 0) wx) ∧ Hid (FrR w1.heap.size w3 wx))
                    case first =>
                      have hle3 : w1.heap.size ≤ w3.heap.size := by have := HR3.out.le; omega
                      (try clear HSp)
                      (try clear HSs)
                      (try clear HSB)
                      (try clear HM)
                      (try clear HR3)
                      (try clear HOk)
                      (try clear HR3b)
                      (try clear HWB)
                      (try clear HN2)
                      (try clear h1)
                      (try clear hpn)
                      (try clear hs)
                      (try clear hs1)
                      (try clear hm300)
                      (try clear hk)
                      (try clear hlow)
                      (try clear hgl)
                      (try clear hbl)
                      (try clear hle)
                      (try clear hwr)
                      (try clear hlt)
                      (try clear hkl)
                      (try clear hki)
                      (try clear hkn)
                      (try clear cl)
                      (try clear hl3)
                      (try clear hw0')
                      (try clear hwn')
                      (try clear hle2)
                      (try clear hx0)
                      (try clear c0)
                      (try clear l0)
                      (try clear hz)
                      (try clear HNe)
                      (try clear hs3)
                      (try clear HB3)
                      (try clear hb9l)
                      (try clear HLo)
                      (try clear HQ2)
                      (try clear hw0)
                      (try clear hwn)
                      (try clear HSk)
                      (try clear hw0g)
                      (try clear e0)
                      (try clear k6)
                      as_aux_lemma =>
                        (refine wp_region_calm [w1.heap.size] [0, 1, 2, 3, 4, 5, 6, 7, 8, 9, 10, 11, 12, 13] 1 (by kernel_rfl) rfl (by kernel_rfl) (by kernel_rfl) (by kernel_rfl) ?_; simp only [pickB, List.filterMap_cons, List.filterMap_nil, List.getElem?_toArray, List.getElem?_cons_zero, List.getElem?_cons_succ]; (iterate 13 (first | ((with_reducible refine quietL_plain rfl (fun K hK => ?_)); (apply Exists.intro; refine ⟨fun wx hx => ?_, ?_⟩; (· (have hcx := ifs_ex hx); simp [go_sem, *, ↓IntWalk.iteOmega] <;> (first | rfl | exact ⟨rfl, rfl⟩ | fail)); (simp only [Act.put, List.setIfInBounds_toArray, List.set_cons_zero, List.set_cons_succ]; refine hK _ ?_; clear hK K))) | ((with_reducible refine quietL_skip (by with_unfolding_all rfl) ?_); simp only [Act.put, List.setIfInBounds_toArray, List.set_cons_zero, List.set_cons_succ]) | ((with_reducible refine quietL_want (by with_unfolding_all rfl) (fun K hK => ?_)); (apply Exists.intro; refine ⟨fun wx hx => ?_, ?_⟩; (· (have hcx := ifs_ex hx); simp [go_sem, *, ↓IntWalk.iteOmega] <;> (first | rfl | exact ⟨rfl, rfl⟩ | fail)); (simp only [Act.put, List.setIfInBounds_toArray, List.set_cons_zero, List.set_cons_succ]; refine hK _ ?_; clear hK K))))); ((with_reducible refine quietL_plain rfl (fun K hK => ?_)); refine ⟨.agg #[.slice none 0 0, .int .i64 q1, .int .i64 q2, .int .i64 q3, .int .i64 q4], fun wx hx => quiet_bl 26 _ [(0, .slice none 0 0), (1, .agg #[.int .i64 q1, .int .i64 q2]), (2, .int .i64 q3), (3, .int .i64 q4)] #[.slice none 0 0, .int .i64 q1, .int .i64 q2, .int .i64 q3, .int .i64 q4] rfl rfl (by kernel_rfl), ?_⟩; (simp only [Act.put, List.setIfInBounds_toArray, List.set_cons_zero, List.set_cons_succ]; refine hK _ ?_; clear hK K)); refine quietL_nil ?_)
                        refine anyB_one (i := 14) (by kernel_rfl) rfl rfl ?_
                        intro w4 hb4 K hK
                        have hs4 := hb4.size
                        have HV7 := Lib.hid (HV6.out.kept hb4)
                        have c7 := HV7.out.box.cell
                        have f7 := HV7.out.box.frozen
                        have l7 := HV7.out.box.lt
                        go_wp2
                        refine ⟨xs_, ?_⟩
                        refine anyB_end (by kernel_rfl) ?_
                        intro w5 hb5
                        simp only [Calm]
                        have HN5 := Lib.hid ((HV7.out.head q1 q2 q3 q4).kept hb5)
                        have HF5 := Lib.hid ((((((((FrR.refl w1.heap.size w3).below (by omega) hb4).set 0 (.slice none 0 0)).set 1 (.int .i64 q1)).set 2 (.int .i64 q2)).set 3 (.int .i64 q3)).set 4 (.int .i64 q4)).below (by simp [World.setCell]; omega) hb5)
                        clear c6 f6 l6 c7 f7 l7 hb4 hb5
                        go_wp2_with fail
                        go_meet
                        case rel => exact ⟨HN5, HF5⟩
                    rename World => w5
                    obtain ⟨HN5, HF5⟩ := hcut
                    clear c6 f6 l6
                    go_wp2_with fail
                    go_roundw
                    case rel => exact ⟨1, _, by omega, by go_num, Lib.hid ⟨by rw [HOk.out, HR3b.out], ⟨Nat.zero_le _, fun _ h => (by cases h)⟩, fun h => (by cases h)⟩, HR3.out.after HN5.out HF5.out⟩
                    case measure => simp [intOf]; omega
        · skip
          as_aux_lemma =>
            have HRow : Hid (rowA z k ws = (modR ws, { z with m := z.m ++ [modV ws] })) := Lib.hid (if_neg hk0)
            have hk0i : ¬ (k : Int) = 0 := by omega
            have hk0b : ((k : Int) == 0) = false := by simpa using hk0i
            obtain ⟨n2, hn2⟩ : ∃ n2, ws.length = n2 := ⟨_, rfl⟩
            have HN2 := Lib.hid hn2
            have hO2 : Own w2 wr.heap.size 9 1 g2 n2 cap2 (ws.map .string) := by rw [← hn2]; exact HO2.out
            clear HO2
            have HO2 := Lib.hid hO2
            have hw0' : 0 < n2 := by omega
            have hwn' : n2 ≤ 4097 := by omega
            rw [hn2]
            clear hw0 hwn hn2 hO2 hk0
            by_cases h4 : n2 = 4
            case neg =>
              as_aux_lemma =>
                have HNo := Lib.hid (HNO.out (by rw [HRow.out]; show modR ws = false; unfold modR; rw [show (ws.length == 4) = false by rw [HN2.out]; simpa using h4]; rfl))
                have h4i : ¬ (n2 : Int) = 4 := by omega
                have h4b : ((n2 : Int) == 4) = false := by simpa using h4i
                have h4c : ((n2 : Int) != 4) = true := by simpa using h4i
                clear HNO HOK HRow HO2
                have q2n := HR2.out.q2
                have c2n := q2n.cell
                have f2n := q2n.frozen
                have l2n := q2n.lt
                have HQ2 := Lib.hid (put5_blk (v0 := .slice none 0 0) (v1 := .int .i64 0) (v2 := .int .i64 0) (v3 := .int .i64 0) (v4 := .int .i64 0) q2n)
                have HLo := Lib.hid (put5_low (b := w.heap.size) (v0 := .slice none 0 0) (v1 := .int .i64 0) (v2 := .int .i64 0) (v3 := .int .i64 0) (v4 := .int .i64 0) HR2.out.low (Nat.le_refl _))
                clear q2n
                go_wp2_with fail
                refine bodyPost_ret (res_p3 Tryz.results26 rfl rfl rfl HQ2.out) rfl ?_
                rw [HNo.out]
                exact pa_nil _ _ HLo.out
            case pos =>
              subst h4
              obtain ⟨x0, x1, x2, x3, rfl⟩ := len4s HN2.out
              have c0 : w2.cell? ⟨g2, 0, none⟩ = some (.string x0) := (own_live HO2.out 0 (by simp)).1
              have c1 : w2.cell? ⟨g2, 1, none⟩ = some (.string x1) := (own_live HO2.out 1 (by simp)).1
              have c2 : w2.cell? ⟨g2, 2, none⟩ = some (.string x2) := (own_live HO2.out 2 (by simp)).1
              have c3 : w2.cell? ⟨g2, 3, none⟩ = some (.string x3) := (own_live HO2.out 3 (by simp)).1
              have l0 : g2 < w2.heap.size := HO2.out.lt.2
              have HH : Hid (modR [x0, x1, x2, x3] = ((((x0.toList == [109, 111, 100, 117, 108, 101]) && !x1.toList.isEmpty) && intOk x2.data.toList) && stW x3.toList)) := Lib.hid (by
                unfold modR
                rw [← empty_b]
                rfl)
              cases hx0 : (x0.toList == [109, 111, 100, 117, 108, 101]) with
              | false =>
                as_aux_lemma =>
                  have HNo := Lib.hid (HNO.out (by rw [HRow.out]; show modR _ = false; rw [HH.out, hx0]; rfl))
                  clear HNO HOK HRow HH HO2
                  have q2n := HR2.out.q2
                  have c2n := q2n.cell
                  have f2n := q2n.frozen
                  have l2n := q2n.lt
                  have HQ2 := Lib.hid (put5_blk (v0 := .slice none 0 0) (v1 := .int .i64 0) (v2 := .int .i64 0) (v3 := .int .i64 0) (v4 := .int .i64 0) q2n)
                  have HLo := Lib.hid (put5_low (b := w.heap.size) (v0 := .slice none 0 0) (v1 := .int .i64 0) (v2 := .int .i64 0) (v3 := .int .i64 0) (v4 := .int .i64 0) HR2.out.low (Nat.le_refl _))
                  clear q2n
                  go_wp2_with fail
                  refine bodyPost_ret (res_p3 Tryz.results26 rfl rfl rfl HQ2.out) rfl ?_
                  rw [HNo.out]
                  exact pa_nil _ _ HLo.out
              | true =>
                cases hx1 : x1.toList.isEmpty with
                | true =>
                  as_aux_lemma =>
                    have HNo := Lib.hid (HNO.out (by rw [HRow.out]; show modR _ = false; rw [HH.out, hx0, hx1]; rfl))
                    clear HNO HOK HRow HH HO2
                    have q2n := HR2.out.q2
                    have c2n := q2n.cell
                    have f2n := q2n.frozen
                    have l2n := q2n.lt
                    have HQ2 := Lib.hid (put5_blk (v0 := .slice none 0 0) (v1 := .int .i64 0) (v2 := .int .i64 0) (v3 := .int .i64 0) (v4 := .int .i64 0) q2n)
                    have HLo := Lib.hid (put5_low (b := w.heap.size) (v0 := .slice none 0 0) (v1 := .int .i64 0) (v2 := .int .i64 0) (v3 := .int .i64 0) (v4 := .int .i64 0) HR2.out.low (Nat.le_refl _))
                    clear q2n
                    go_wp2_with fail
                    refine bodyPost_ret (res_p3 Tryz.results26 rfl rfl rfl HQ2.out) rfl ?_
                    rw [HNo.out]
                    exact pa_nil _ _ HLo.out
                | false =>
                  have HHW := Lib.hid (fun W g hb => HasWord_any (g + 1) (some ⟨g, 0, none⟩) 3 3 stL x3 W hb (by unfold maxLen; decide))
                  have hst := hasW_st x3
                  cases hx3 : stW x3.toList with
                  | false =>
                    as_aux_lemma =>
                      rw [hx3] at hst
                      rw [hst] at HHW
                      have HNo := Lib.hid (HNO.out (by rw [HRow.out]; show modR _ = false; rw [HH.out, hx0, hx1, hx3]; simp))
                      clear HNO HOK HRow HH hst hx3
                      go_wp2_with fail
                      refine (HHW.out _ _ (Reads.new (size := 1) w2 #[.string ⟨#[111, 110]⟩, .string ⟨#[111, 102, 102]⟩, .string ⟨#[98, 121, 112, 97, 115, 115, 101, 100]⟩] 9 3 rfl)).mono ?_
                      rintro e w3 ⟨rfl, hw3⟩
                      have HR3 : Hid (RpI w.heap.size w1.heap.size g cap ls w z w3) := Lib.hid (by rw [← hw3]; exact HR2.out.kept ((Below.refl _ _).alloc (Nat.le_refl _) _))
                      clear hw3 HO2 HHW
                      have q2n := HR3.out.q2
                      have c2n := q2n.cell
                      have f2n := q2n.frozen
                      have l2n := q2n.lt
                      have HQ2 := Lib.hid (put5_blk (v0 := .slice none 0 0) (v1 := .int .i64 0) (v2 := .int .i64 0) (v3 := .int .i64 0) (v4 := .int .i64 0) q2n)
                      have HLo := Lib.hid (put5_low (b := w.heap.size) (v0 := .slice none 0 0) (v1 := .int .i64 0) (v2 := .int .i64 0) (v3 := .int .i64 0) (v4 := .int .i64 0) HR3.out.low (Nat.le_refl _))
                      clear q2n
                      go_wp2_with fail
                      refine bodyPost_ret (res_p3 Tryz.results26 rfl rfl rfl HQ2.out) rfl ?_
                      rw [HNo.out]
                      exact pa_nil _ _ HLo.out
                  | true =>
                    rw [hx3] at hst
                    rw [hst] at HHW
                    clear hst
                    have HDx := Lib.hid (fun W => Digits_any x2 W (Nat.le_trans (HWB.out x2 (by simp)) (by unfold maxLen; decide)))
                    go_upto_region 14 with fail
                    go_cut [90] (fun s90 W => s90 = .bool false ∧ Below w2.heap.size w2 W)
                    case first =>
                      as_aux_lemma =>
                        clear HNO HOK HRow HH HR2
                        go_wp2_with fail
                        refine (HHW.out _ _ (Reads.new (size := 1) w2 #[.string ⟨#[111, 110]⟩, .string ⟨#[111, 102, 102]⟩, .string ⟨#[98, 121, 112, 97, 115, 115, 101, 100]⟩] 9 3 rfl)).mono ?_
                        rintro e w3 ⟨rfl, hw3⟩
                        subst hw3
                        go_wp2_with fail
                        go_meet
                        case rel => exact ⟨rfl, bl_⟩
                    rename World => w3
                    obtain ⟨rfl, hb3⟩ := hcut
                    have HR3 := Lib.hid (HR2.out.kept hb3)
                    have hle2 := HR2.out.le
                    have HO3 : Hid (Own w3 wr.heap.size 9 1 g2 4 cap2 ([x0, x1, x2, x3].map .string)) := Lib.hid (own_kept (show w2.ownsRow wr.heap.size 9 1 (.slice (some ⟨g2, 0, none⟩) 4 cap2) 4 ([x0, x1, x2, x3].map .string) from HO2.out) hb3)
                    have hs3 := hb3.size
                    have d1 : w3.cell? ⟨g2, 1, none⟩ = some (.string x1) := (hb3.cell (p := ⟨g2, 1, none⟩) l0).trans c1
                    have d2 : w3.cell? ⟨g2, 2, none⟩ = some (.string x2) := (hb3.cell (p := ⟨g2, 2, none⟩) l0).trans c2
                    have d3 : w3.cell? ⟨g2, 3, none⟩ = some (.string x3) := (hb3.cell (p := ⟨g2, 3, none⟩) l0).trans c3
                    have l3 : g2 < w3.heap.size := by omega
                    have hgw : wr.heap.size ≤ g2 := HO2.out.lt.1
                    have hgT : ∀ d f, ¬ w3.heap[g2]? = some (.cells d 109 f) := fun d f h => by
                      obtain ⟨_, d', f', hd'⟩ := own_row (show w3.ownsRow wr.heap.size 9 1 (.slice (some ⟨g2, 0, none⟩) 4 cap2) 4 ([x0, x1, x2, x3].map .string) from HO3.out) (k := g2) rfl
                      rw [h] at hd'
                      simp at hd'
                    clear hb3 c0 c1 c2 c3 HO2 HR2 HHW
                    cases hx2 : intOk x2.data.toList with
                    | false =>
                      as_aux_lemma =>
                        have HNo := Lib.hid (HNO.out (by rw [HRow.out]; show modR _ = false; rw [HH.out, hx0, hx1, hx2]; rfl))
                        rw [hx2] at HDx
                        clear HNO HOK HRow HH hx2 HO3
                        go_wp2_with fail
                        refine (HDx.out _).mono ?_
                        rintro e w4 ⟨rfl, rfl⟩
                        have q2n := HR3.out.q2
                        have c2n := q2n.cell
                        have f2n := q2n.frozen
                        have l2n := q2n.lt
                        have HQ2 := Lib.hid (put5_blk (v0 := .slice none 0 0) (v1 := .int .i64 0) (v2 := .int .i64 0) (v3 := .int .i64 0) (v4 := .int .i64 0) q2n)
                        have HLo := Lib.hid (put5_low (b := w.heap.size) (v0 := .slice none 0 0) (v1 := .int .i64 0) (v2 := .int .i64 0) (v3 := .int .i64 0) (v4 := .int .i64 0) HR3.out.low (Nat.le_refl _))
                        clear q2n
                        go_wp2_with fail
                        refine bodyPost_ret (res_p3 Tryz.results26 rfl rfl rfl HQ2.out) rfl ?_
                        rw [HNo.out]
                        exact pa_nil _ _ HLo.out
                    | true =>
                      as_aux_lemma =>
                        have hdig : decV x2.data.toList = digR x2 := digR_ok hx2
                        have HOk := Lib.hid (HOK.out (by rw [HRow.out]; show modR _ = true; rw [HH.out, hx0, hx1, hx2, hx3]; rfl))
                        have HRv : Hid ((rowA z k [x0, x1, x2, x3]).2 = { z with m := z.m ++ [⟨x1, digR x2, x3.toList == [111, 110], x3.toList == [98, 121, 112, 97, 115, 115, 101, 100]⟩] }) := Lib.hid (by
                          rw [HRow.out, ← hdig]
                          rfl)
                        have hsx1 := HWB.out x1 (by simp)
                        have HLz := Lib.hid (LenA.mk (k := k + 1) (M := 4096) (z := { z with m := z.m ++ [⟨x1, digR x2, x3.toList == [111, 110], x3.toList == [98, 121, 112, 97, 115, 115, 101, 100]⟩] }) (by
                          show (z.m ++ [_]).length ≤ _
                          have := hz.out.2.1.m
                          simp; omega) (fun u hu => by
                          rcases List.mem_append.1 hu with h | h
                          · exact hz.out.2.1.nm u h
                          · rw [List.mem_singleton.1 h]; exact hsx1))
                        rw [hx2] at HDx
                        clear HNO HOK HRow HH hx2 hx3 hdig hx0 hx1 HO3
                        obtain ⟨q2, eq2⟩ : ∃ q, digR x2 = q := ⟨_, rfl⟩
                        rw [eq2] at HRv HLz HDx
                        clear eq2
                        obtain ⟨ob, eob⟩ : ∃ ob, (x3.toList == [111, 110]) = ob := ⟨_, rfl⟩
                        obtain ⟨yb, eyb⟩ : ∃ yb, (x3.toList == [98, 121, 112, 97, 115, 115, 101, 100]) = yb := ⟨_, rfl⟩
                        rw [eob, eyb] at HRv HLz
                        obtain ⟨v6, hv6⟩ := HR3.out.ar
                        have hzm := hz.out.2.1.m
                        obtain ⟨A6, c6, rfl, hnc, hcm, hrd⟩ := own_form hv6.r0
                        have HV6 := Lib.hid hv6
                        have cg := hv6.box.cell
                        have lg := hv6.box.lt
                        obtain ⟨r0, hr0, hr1, hr2⟩ : ∃ r0, (∀ r, (Value.slice A6 z.m.length c6).ownBlock = some r → r = r0) ∧ r0 < w3.heap.size ∧ g2 ≠ r0 := by
                          cases h : (Value.slice A6 z.m.length c6).ownBlock with
                          | none => exact ⟨w1.heap.size, fun r e => (by cases e), lg, by omega⟩
                          | some r =>
                            refine ⟨r, fun z e => (by cases e; rfl), (row_base_lt hv6.r0 r h).2, fun e => ?_⟩
                            obtain ⟨_, d, f, hd⟩ := own_row hv6.r0 h
                            rw [← e] at hd
                            exact hgT d f hd
                        have HR0 := Lib.hid hr0
                        clear hv6 hrd hr0 hz
                        go_wp2_with fail
                        refine (HDx.out _).mono ?_
                        rintro e w4 ⟨rfl, hw4⟩
                        subst hw4
                        have hsz3 : w1.heap.size + 1 ≤ w3.heap.size := HR3.out.le
                        have hgne : g2 ≠ w1.heap.size := by omega
                        go_upto_region 19 with fail
                        (refine wp_region_calm [w1.heap.size, r0] [0, 2, 3, 4, 5, 6, 7, 8, 9, 10, 11, 12, 13, 14] 5 (by kernel_rfl) rfl (by kernel_rfl) (by kernel_rfl) (by kernel_rfl) ?_; simp only [pickB, List.filterMap_cons, List.filterMap_nil, List.getElem?_toArray, List.getElem?_cons_zero, List.getElem?_cons_succ]; (iterate 13 (first | ((with_reducible refine quietL_plain rfl (fun K hK => ?_)); (apply Exists.intro; refine ⟨fun wx hx => ?_, ?_⟩; (· (have hcx := ifs_ex hx); simp [go_sem, *, ↓IntWalk.iteOmega] <;> (first | rfl | exact ⟨rfl, rfl⟩ | fail)); (simp only [Act.put, List.setIfInBounds_toArray, List.set_cons_zero, List.set_cons_succ]; refine hK _ ?_; clear hK K))) | ((with_reducible refine quietL_skip (by with_unfolding_all rfl) ?_); simp only [Act.put, List.setIfInBounds_toArray, List.set_cons_zero, List.set_cons_succ]) | ((with_reducible refine quietL_want (by with_unfolding_all rfl) (fun K hK => ?_)); (apply Exists.intro; refine ⟨fun wx hx => ?_, ?_⟩; (· (have hcx := ifs_ex hx); simp [go_sem, *, ↓IntWalk.iteOmega] <;> (first | rfl | exact ⟨rfl, rfl⟩ | fail)); (simp only [Act.put, List.setIfInBounds_toArray, List.set_cons_zero, List.set_cons_succ]; refine hK _ ?_; clear hK K))))); ((with_reducible refine quietL_plain rfl (fun K hK => ?_)); refine ⟨.agg #[.string x1, .int .i64 q2, .bool ob, .bool yb], fun wx hx => quiet_bl 109 _ [(0, .string x1), (1, .int .i64 q2), (2, .bool ob), (3, .bool yb)] #[.string x1, .int .i64 q2, .bool ob, .bool yb] rfl rfl (by kernel_rfl), ?_⟩; (simp only [Act.put, List.setIfInBounds_toArray, List.set_cons_zero, List.set_cons_succ]; refine hK _ ?_; clear hK K)); refine quietL_nil ?_)
                        refine anyB_two (i := 1) (j := 15) (by kernel_rfl) rfl rfl rfl rfl ?_ ?_
                        · intro w8 hb8 K hK
                          have cg8 := (HV6.out.kept hb8).box.cell
                          have lg8 := (HV6.out.kept hb8).box.lt
                          have hs8 := hb8.size
                          go_wp2
                          refine ⟨xs_, ?_⟩
                          clear cg8 lg8
                          refine anyB_one (i := 15) (by kernel_rfl) rfl rfl ?_
                          intro w9 hb9 K hK
                          have hs9 := hb9.size
                          refine wp_bs 22 109 (.tmp 118) (.agg #[.string x1, .int .i64 q2, .bool ob, .bool yb]) #[.string x1, .int .i64 q2, .bool ob, .bool yb] rfl rfl (by kernel_rfl) (hK _ _ ⟨xs_, ?_⟩)
                          clear hK K
                          have HBL : Hid (∀ W', Below (w9.alloc (.cells #[.string x1, .int .i64 q2, .bool ob, .bool yb] 109)).heap.size (w9.alloc (.cells #[.string x1, .int .i64 q2, .bool ob, .bool yb] 109)) W' → Blk W' w9.heap.size 109 #[.string x1, .int .i64 q2, .bool ob, .bool yb]) := Lib.hid fun W' h => (Blk.new _ _ _).kept h
                          have HLow : Hid (∀ W', Below (w9.alloc (.cells #[.string x1, .int .i64 q2, .bool ob, .bool yb] 109)).heap.size (w9.alloc (.cells #[.string x1, .int .i64 q2, .bool ob, .bool yb] 109)) W' → Below w3.heap.size w3 W') := Lib.hid fun W' h => (((hb8.trans (hb9.mono hs8)).alloc (by omega) _).trans (h.mono (by simp; omega)))
                          refine anyB_one (i := 16) (by kernel_rfl) rfl rfl ?_
                          intro wd hbd K hK
                          have hWd := HLow.out wd hbd
                          have hYd := HV6.out.kept hWd
                          have hbl := HBL.out wd hbd
                          have hsd := hWd.size
                          refine wp_appB 22 109 4 32 elemMdR (.tmp 105) (.tmp 119) rfl (w1.heap.size + 1) _ _ _ rfl hYd.r0 w9.heap.size 1 _ rfl hbl rfl ?_ (by decide) ?_ ?_ ?_ ?_
                          · intro u hu; simp at hu; rcases hu with rfl | rfl | rfl | rfl <;> rfl
                          · unfold maxLen; omega
                          · omega
                          · omega
                          intro g' cap' we hown hg hat
                          have hXe : Ex [w1.heap.size, r0] w3 we := (Ex.of_below hWd).trans (Ex.of_grown hg (fun r e => by rw [HR0.out r e]; simp))
                          refine hK _ _ ⟨hXe, ?_⟩
                          clear hK K hat
                          have HG := Lib.hid hg
                          have HO := Lib.hid hown
                          have HYd := Lib.hid hYd
                          have HWd := Lib.hid hWd
                          have hbe := hYd.box.grown hg (own_neT hYd.r0 hYd.box (by decide))
                          have HBe := Lib.hid hbe
                          clear hown hg hYd hWd hbl hbe hbd
                          (refine anyB_quiet_at (by kernel_rfl) calm_panic xs_ 1 [17] _ _ (by kernel_rfl) (by decide +kernel) ?_; simp only [pickB, List.filterMap_cons, List.filterMap_nil, List.getElem?_toArray, List.getElem?_cons_zero, List.getElem?_cons_succ]; (repeat (first | ((first | (with_reducible refine quietL_plain rfl (fun K hK => ?_)) | (with_reducible refine quietL_want (by with_unfolding_all rfl) (fun K hK => ?_))); (apply Exists.intro; refine ⟨fun wx hx => ?_, ?_⟩; (· (have hcx := ifs_ex hx); simp [go_sem, *, ↓IntWalk.iteOmega] <;> (first | rfl | exact ⟨rfl, rfl⟩ | fail)); (simp only [Act.put, List.setIfInBounds_toArray, List.set_cons_zero, List.set_cons_succ]; refine hK _ ?_; clear hK K))) | ((with_reducible refine quietL_skip (by with_unfolding_all rfl) ?_); simp only [Act.put, List.setIfInBounds_toArray, List.set_cons_zero, List.set_cons_succ]))); refine quietL_nil ?_)
                          refine anyB_one (i := 18) (by kernel_rfl) rfl rfl ?_
                          intro wf hbf K hK
                          have bg := HBe.out.kept hbf
                          have cgf := bg.cell
                          have fgf := bg.frozen
                          have lgf := bg.lt
                          have HN := Lib.hid (HYd.out.app (x := ⟨x1, q2, ob, yb⟩) (grown_thenK HG.out hbf) (HO.out.kept hbf))
                          have HF := Lib.hid (((((FrR.refl w1.heap.size w3).below (by omega) HWd.out).grown HYd.out.r0 HG.out (by omega)).below (by have := HG.out.size; omega) hbf).set 0 (.slice (some ⟨g', 0, none⟩) (z.m.length + 1) cap'))
                          clear bg
                          go_wp2
                          refine ⟨xs_, ?_⟩
                          refine anyB_end (by kernel_rfl) ?_
                          intro wm hbm
                          simp only [Calm]
                          have HN2 := Lib.hid (HN.out.kept hbm)
                          have HF2 := Lib.hid (HF.out.below (by have := HF.out.size; omega) hbm)
                          clear HN HF HG HO HYd HWd HBe
                          have HAf := Lib.hid (HR3.out.after HN2.out HF2.out)
                          clear HN2 HF2
                          go_wp2_with fail
                          go_roundw
                          case rel => exact ⟨k + 1, _, by omega, by go_num, Lib.hid ⟨by rw [HOk.out, HRv.out], HLz.out, fun h => absurd h (Nat.succ_ne_zero k)⟩, HAf.out⟩
                          case measure => simp [intOf]; omega
                        · intro w8 hb8 K hK
                          have hs8 := hb8.size
                          refine wp_bs 22 109 (.tmp 118) (.agg #[.string x1, .int .i64 q2, .bool ob, .bool yb]) #[.string x1, .int .i64 q2, .bool ob, .bool yb] rfl rfl (by kernel_rfl) (hK _ _ ⟨xs_, ?_⟩)
                          clear hK K
                          refine anyB_one (i := 1) (by kernel_rfl) rfl rfl ?_
                          intro w9 hb9 K hK
                          have hl9 : Below w3.heap.size w3 w9 := (hb8.alloc hs8 _).trans (hb9.mono (by simp; omega))
                          have cg9 := (HV6.out.kept hl9).box.cell
                          have lg9 := (HV6.out.kept hl9).box.lt
                          have hs9 := hl9.size
                          have HL9 := Lib.hid hl9
                          have HBL : Hid (∀ W', Below w9.heap.size w9 W' → Blk W' w8.heap.size 109 #[.string x1, .int .i64 q2, .bool ob, .bool yb]) := Lib.hid fun W' h => ((Blk.new _ _ _).kept hb9).kept h
                          have HLow : Hid (∀ W', Below w9.heap.size w9 W' → Below w3.heap.size w3 W') := Lib.hid fun W' h => HL9.out.trans (h.mono hs9)
                          clear hl9
                          go_wp2
                          refine ⟨xs_, ?_⟩
                          clear cg9 lg9
                          refine anyB_one (i := 16) (by kernel_rfl) rfl rfl ?_
                          intro wd hbd K hK
                          have hWd := HLow.out wd hbd
                          have hYd := HV6.out.kept hWd
                          have hbl := HBL.out wd hbd
                          have hsd := hWd.size
                          refine wp_appB 22 109 4 32 elemMdR (.tmp 105) (.tmp 119) rfl (w1.heap.size + 1) _ _ _ rfl hYd.r0 w8.heap.size 1 _ rfl hbl rfl ?_ (by decide) ?_ ?_ ?_ ?_
                          · intro u hu; simp at hu; rcases hu with rfl | rfl | rfl | rfl <;> rfl
                          · unfold maxLen; omega
                          · omega
                          · omega
                          intro g' cap' we hown hg hat
                          have hXe : Ex [w1.heap.size, r0] w3 we := (Ex.of_below hWd).trans (Ex.of_grown hg (fun r e => by rw [HR0.out r e]; simp))
                          refine hK _ _ ⟨hXe, ?_⟩
                          clear hK K hat
                          have HG := Lib.hid hg
                          have HO := Lib.hid hown
                          have HYd := Lib.hid hYd
                          have HWd := Lib.hid hWd
                          have hbe := hYd.box.grown hg (own_neT hYd.r0 hYd.box (by decide))
                          have HBe := Lib.hid hbe
                          clear hown hg hYd hWd hbl hbe hbd
                          (refine anyB_quiet_at (by kernel_rfl) calm_panic xs_ 1 [17] _ _ (by kernel_rfl) (by decide +kernel) ?_; simp only [pickB, List.filterMap_cons, List.filterMap_nil, List.getElem?_toArray, List.getElem?_cons_zero, List.getElem?_cons_succ]; (repeat (first | ((first | (with_reducible refine quietL_plain rfl (fun K hK => ?_)) | (with_reducible refine quietL_want (by with_unfolding_all rfl) (fun K hK => ?_))); (apply Exists.intro; refine ⟨fun wx hx => ?_, ?_⟩; (· (have hcx := ifs_ex hx); simp [go_sem, *, ↓IntWalk.iteOmega] <;> (first | rfl | exact ⟨rfl, rfl⟩ | fail)); (simp only [Act.put, List.setIfInBounds_toArray, List.set_cons_zero, List.set_cons_succ]; refine hK _ ?_; clear hK K))) | ((with_reducible refine quietL_skip (by with_unfolding_all rfl) ?_); simp only [Act.put, List.setIfInBounds_toArray, List.set_cons_zero, List.set_cons_succ]))); refine quietL_nil ?_)
                          refine anyB_one (i := 18) (by kernel_rfl) rfl rfl ?_
                          intro wf hbf K hK
                          have bg := HBe.out.kept hbf
                          have cgf := bg.cell
                          have fgf := bg.frozen
                          have lgf := bg.lt
                          have HN := Lib.hid (HYd.out.app (x := ⟨x1, q2, ob, yb⟩) (grown_thenK HG.out hbf) (HO.out.kept hbf))
                          have HF := Lib.hid (((((FrR.refl w1.heap.size w3).below (by omega) HWd.out).grown HYd.out.r0 HG.out (by omega)).below (by have := HG.out.size; omega) hbf).set 0 (.slice (some ⟨g', 0, none⟩) (z.m.length + 1) cap'))
                          clear bg
                          go_wp2
                          refine ⟨xs_, ?_⟩
                          refine anyB_end (by kernel_rfl) ?_
                          intro wm hbm
                          simp only [Calm]
                          have HN2 := Lib.hid (HN.out.kept hbm)
                          have HF2 := Lib.hid (HF.out.below (by have := HF.out.size; omega) hbm)
                          clear HN HF HG HO HYd HWd HBe
                          have HAf := Lib.hid (HR3.out.after HN2.out HF2.out)
                          clear HN2 HF2
                          go_wp2_with fail
                          go_roundw
                          case rel => exact ⟨k + 1, _, by omega, by go_num, Lib.hid ⟨by rw [HOk.out, HRv.out], HLz.out, fun h => absurd h (Nat.succ_ne_zero k)⟩, HAf.out⟩
                          case measure => simp [intOf]; omega
    · skip
      as_aux_lemma =>
        obtain rfl : k = m := by omega
        have hkl : k < ls.length := by rw [HM.out]; omega
        have hlv := own_live HR.out.ln k (by rw [HM.out]; omega)
        have cl : wr.cell? ⟨g, k, none⟩ = some (.string ls[k]) := by rw [hlv.1, List.getElem?_map, List.getElem?_eq_getElem hkl]; rfl
        have hki : ¬ (k : Int) < (k : Int) := by omega
        have hkn : (k : Int) < (k : Int) + 1 := by omega
        have HL1 : Hid (ls.drop k = [ls[k]]) := Lib.hid (by
          rw [List.drop_eq_getElem_cons hkl, List.drop_eq_nil_of_le (by rw [HM.out]; omega)])
        have HG : Hid (goA nilA 0 ls = if ls[k].toList.isEmpty then (if armE z = 0 then (z, 0, 0) else (nilA, k, armE z)) else (nilA, k, 25)) := Lib.hid (by
          rw [hz.out.1, HL1.out, goA_last, empty_b])
        have HP : Hid (parseL ls = if k = 0 then (nilA, 0, 25) else goA nilA 0 ls) := Lib.hid (by
          unfold parseL
          rw [HM.out]
          by_cases h0 : k = 0
          · rw [if_pos h0, if_pos (by omega)]
          · rw [if_neg h0, if_neg (by omega)])
        have hFt : FitL z := ⟨Nat.le_trans hz.out.2.1.m (by omega), fun x hx => Nat.le_trans (hz.out.2.1.nm x hx) (by unfold maxLen; decide)⟩
        generalize ls[k] = l at *
        clear hlv HSB HSp HSs hz HL1
        cases hle : l.toList.isEmpty with
        | false =>
          as_aux_lemma =>
            have HNo : Hid (parseL ls = (nilA, k, 25)) := Lib.hid (by
              rw [HP.out]
              by_cases h0 : k = 0
              · rw [if_pos h0, h0]
              · rw [if_neg h0, HG.out, hle]; rfl)
            clear HP HG hFt
            have q2n := HR.out.q2
            have c2n := q2n.cell
            have f2n := q2n.frozen
            have l2n := q2n.lt
            have HQ2 := Lib.hid (put5_blk (v0 := .slice none 0 0) (v1 := .int .i64 0) (v2 := .int .i64 0) (v3 := .int .i64 0) (v4 := .int .i64 0) q2n)
            have HLo := Lib.hid (put5_low (b := w.heap.size) (v0 := .slice none 0 0) (v1 := .int .i64 0) (v2 := .int .i64 0) (v3 := .int .i64 0) (v4 := .int .i64 0) HR.out.low (Nat.le_refl _))
            clear q2n
            go_wp2_with fail
            refine bodyPost_ret (res_p3 Tryz.results26 rfl rfl rfl HQ2.out) rfl ?_
            rw [HNo.out]
            exact pa_nil _ _ HLo.out
        | true =>
          by_cases h0 : k = 0
          · skip
            as_aux_lemma =>
              subst h0
              have HNo : Hid (parseL ls = (nilA, 0, 25)) := Lib.hid (by rw [HP.out, if_pos rfl])
              clear HP HG hFt
              have q2n := HR.out.q2
              have c2n := q2n.cell
              have f2n := q2n.frozen
              have l2n := q2n.lt
              have HQ2 := Lib.hid (put5_blk (v0 := .slice none 0 0) (v1 := .int .i64 0) (v2 := .int .i64 0) (v3 := .int .i64 0) (v4 := .int .i64 0) q2n)
              have HLo := Lib.hid (put5_low (b := w.heap.size) (v0 := .slice none 0 0) (v1 := .int .i64 0) (v2 := .int .i64 0) (v3 := .int .i64 0) (v4 := .int .i64 0) HR.out.low (Nat.le_refl _))
              clear q2n
              go_wp2_with fail
              refine bodyPost_ret (res_p3 Tryz.results26 rfl rfl rfl HQ2.out) rfl ?_
              rw [HNo.out]
              exact pa_nil _ _ HLo.out
          · have HPe : Hid (parseL ls = if armE z = 0 then (z, 0, 0) else (nilA, k, armE z)) := Lib.hid (by rw [HP.out, if_neg h0, HG.out, hle]; rfl)
            have h0i : ¬ (k : Int) + 1 = 1 := by omega
            have h0b : ((k : Int) + 1 == 1) = false := by simpa using h0i
            have h0c : ¬ (k : Int) = 0 := by omega
            clear HP HG h0
            obtain ⟨v6, hv6⟩ := HR.out.ar
            obtain ⟨A6, c6, rfl, hnc, hcm, hrd⟩ := own_form hv6.r0
            have HC := Lib.hid (rCheckArmL_any wr.heap.size A6 z.m.length c6 z wr hrd (Nat.le_refl _) hFt)
            have HV := Lib.hid hv6
            have HRd := Lib.hid hrd
            have cg := hv6.box.cell
            have lg := hv6.box.lt
            clear hFt hv6 hrd
            by_cases he : armE z = 0
            · skip
              as_aux_lemma =>
                have HNo : Hid (parseL ls = (z, 0, 0)) := Lib.hid (by rw [HPe.out, if_pos he])
                rw [he] at HC
                clear HPe
                go_wp2_with fail
                refine HC.out.mono ?_
                rintro e w3 ⟨rfl, hb3⟩
                have HR3 := Lib.hid (HR.out.kept hb3)
                have HV3 := Lib.hid (HV.out.kept hb3)
                clear HC HV HR cg lg cl
                have cg := HV3.out.box.cell
                have lg := HV3.out.box.lt
                have cb := HR3.out.q2.cell
                have fb := HR3.out.q2.frozen
                have lb := HR3.out.q2.lt
                have HM3 := Lib.hid (ms_kept HRd.out hb3)
                have HQ5 := Lib.hid (put5_blk (v0 := .slice A6 z.m.length c6) (v1 := .int .i64 z.lo) (v2 := .int .i64 z.hi) (v3 := .int .i64 z.cur) (v4 := .int .i64 z.lim) HR3.out.q2)
                have HL5 := Lib.hid (put5_low (b := w.heap.size) (v0 := .slice A6 z.m.length c6) (v1 := .int .i64 z.lo) (v2 := .int .i64 z.hi) (v3 := .int .i64 z.cur) (v4 := .int .i64 z.lim) HR3.out.low (Nat.le_refl _))
                have HM5 := Lib.hid (ms_put5 (v0 := .slice A6 z.m.length c6) (v1 := .int .i64 z.lo) (v2 := .int .i64 z.hi) (v3 := .int .i64 z.cur) (v4 := .int .i64 z.lim) HM3.out HR3.out.q2)
                clear HM3 HRd hb3
                go_wp2_with fail
                refine bodyPost_ret (res_p3 Tryz.results26 rfl rfl rfl HQ5.out) rfl ?_
                rw [HNo.out]
                exact ⟨A6, c6, rfl, HM5.out, hnc, HL5.out⟩
            · skip
              as_aux_lemma =>
                have HNo : Hid (parseL ls = (nilA, k, armE z)) := Lib.hid (by rw [HPe.out, if_neg he])
                clear HPe
                generalize armE z = ee at *
                have hne : (ee != 0) = true := by simpa using he
                go_wp2_with fail
                refine HC.out.mono ?_
                rintro e w3 ⟨rfl, hb3⟩
                have HR3 := Lib.hid (HR.out.kept hb3)
                clear HC HV HR cg lg cl HRd
                have q2n := HR3.out.q2
                have c2n := q2n.cell
                have f2n := q2n.frozen
                have l2n := q2n.lt
                have HQ2 := Lib.hid (put5_blk (v0 := .slice none 0 0) (v1 := .int .i64 0) (v2 := .int .i64 0) (v3 := .int .i64 0) (v4 := .int .i64 0) q2n)
                have HLo := Lib.hid (put5_low (b := w.heap.size) (v0 := .slice none 0 0) (v1 := .int .i64 0) (v2 := .int .i64 0) (v3 := .int .i64 0) (v4 := .int .i64 0) HR3.out.low (Nat.le_refl _))
                clear q2n
                go_wp2_with fail
                refine bodyPost_ret (res_p3 Tryz.results26 rfl rfl rfl HQ2.out) rfl ?_
                rw [HNo.out]
                exact pa_nil _ _ HLo.out
end Go.Proofs.YtjanojmgnpfjeaaGreatDoor
