/- What the law TopClampSent needs beside its walk. -/
import Derived.Test.YtafnebfchhmgcaaGreatN16
import Derived.Test.YtafnebfchhmgcaaGreatN24
import Derived.Test.YtafnebfchhmgcaaGreatN25
import Derived.Test.YtafnebfchhmgcaaGreatDA
import Derived.Deep.AppendLies
namespace Go.Proofs.YtafnebfchhmgcaaGreat
open Go Go.RowKit Go.Sort Go.Shelf
set_option linter.unusedSimpArgs false
set_option linter.unusedVariables false
attribute [local go_sem] cell_if frozen_if grow_cell
set_option maxRecDepth 100000 in
set_option maxHeartbeats 4000000 in
theorem clampTold_any (B : Nat) (A : Option Addr) (n c : Nat) (a : Ar) (w : World) (hM : MsAt w B A n a.m) (hB : B ≤ w.heap.size) (hn : n ≤ 1000) :
    Calls Tryz.prog 26 #[.agg #[.slice A n c, .int .i64 a.lo, .int .i64 a.hi, .int .i64 a.cur, .int .i64 a.lim]] w (OnRes 48 w a) := by
  obtain ⟨hl, hat⟩ := md_at hM
  have HL := Lib.hid hl
  have HA := Lib.hid hat
  clear hl hat hM
  go_enter Tryz.func26, Tryz.ntmps26
  go_wp2_with fail
  go_loopw [16] (fun i wr => ∃ (k : Nat) (v : Value), k ≤ n ∧ i = .int .i64 k ∧ OnI 36 26 48 w A n c a k v wr) (fun i _ => n - (intOf i).toNat)
  case atStart => exact ⟨0, .slice none 0 0, by omega, rfl, bk_, bk_, bk_, World.ownsRow_nil _ _ _ _, bl_, by simp⟩
  case round =>
    obtain ⟨k, v, hk, rfl, hI⟩ := hrel
    have HI := Lib.hid hI
    have hsz := hI.low.size
    have hle := hI.le
    have c3 := hI.b3.cell
    have f3 := hI.b3.frozen
    have l3 := hI.b3.lt
    clear hI
    by_cases hlt : k < n
    · have hkl : k < a.m.length := by rw [HL.out]; exact hlt
      obtain ⟨b, o, eA, hbb, z0, z1, z2, z3⟩ := HA.out k hkl
      have kb : ∀ i, wr.cell? ⟨b, i, none⟩ = w.cell? ⟨b, i, none⟩ := fun i => HI.out.low.cell (p := ⟨b, i, none⟩) (by simp; omega)
      rw [← kb] at z0 z1 z2 z3
      clear kb
      have hbw : b < wr.heap.size := by omega
      have HS : Hid (mds (a.m.take (k + 1)) = mds (a.m.take k) ++ a.m[k].cells) := by
        unfold mds
        rw [List.take_succ_eq_append_getElem hkl, List.flatMap_append]
        exact Lib.hid (by simp)
      subst eA
      generalize a.m[k] = x at *
      obtain ⟨xn, xq, xo, xb⟩ := x
      dsimp only at z0 z1 z2 z3 HS
      have hb1 : Below wr.heap.size wr (wr.alloc (.cells #[.string xn, .int .i64 xq, .bool xo, .bool xb] 115)) := bl_
      have HI2 := Lib.hid (HI.out.kept hb1)
      go_wp2_with (at_builtin; refine wpList_app 22 48 4 32 elemMdR rfl (.tmp 21) (.tmp 23) rfl (w.heap.size + 1 + 1 + 1) v k (mds (a.m.take k)) rfl HI2.out.r 1 (by show Value.slice (some ⟨wr.heap.size + 1, 0, none⟩) 1 1 = _; simp) rfl (by intro u hu; simp at hu; rcases hu with rfl | rfl | rfl | rfl <;> rfl) (by decide) ?h3 ?h4 ?h5 ?_)
      case h3 => unfold maxLen; omega
      case h4 => omega
      case h5 => simp; omega
      intro g' cap' w' hown' hb' hk' hs'
      have hne : ∀ k' t' c', t' ≠ 48 → Blk (wr.alloc (.cells #[.string xn, .int .i64 xq, .bool xo, .bool xb] 115)) k' t' c' → Blk w' k' t' c' := fun k' t' c' ht hk => hk' k' t' c' hk (fun e => own_ne HI2.out.r hk ht e)
      have q1 := hne _ _ _ (by decide) HI2.out.b1
      have q2 := hne _ _ _ (by decide) HI2.out.b2
      have q3 := hne _ _ _ (by decide) HI2.out.b3
      have c3' := q3.cell
      have f3' := q3.frozen
      have l3' := q3.lt
      have HO := Lib.hid hown'
      have hle2 := HI2.out.le
      have hsz' := hb'.size
      have HLw := Lib.hid (HI2.out.low.trans (hb'.mono (by omega)))
      have Q1 := Lib.hid q1
      have Q2 := Lib.hid q2
      have Q3 := Lib.hid q3
      clear hown' hk' hne q1 q2 q3 hb'
      go_wp2
      go_roundw
      case rel =>
        refine ⟨k + 1, _, by omega, by go_num, Q1.out.far (p := ⟨w.heap.size + 1 + 1, 0, none⟩) (show w.heap.size ≠ w.heap.size + 1 + 1 by omega) _, Q2.out.far (p := ⟨w.heap.size + 1 + 1, 0, none⟩) (show w.heap.size + 1 ≠ w.heap.size + 1 + 1 by omega) _, Q3.out.set_ 0 _, ?_, HLw.out.setCell (p := ⟨w.heap.size + 1 + 1, 0, none⟩) (by show w.heap.size ≤ w.heap.size + 1 + 1; omega) _, ?_⟩
        · rw [HS.out]
          exact row_set HO.out Q3.out (by decide)
        · have e5 : ∀ (V : World) (p : Addr) (u : Value), (V.setCell p u).heap.size = V.heap.size := fun V p u => by simp [World.setCell]
          rw [e5]
          omega
      case measure => simp [intOf]; omega
    · obtain rfl : k = n := by omega
      have HR := HI.out.r
      rw [List.take_of_length_le (by rw [HL.out]; exact Nat.le_refl _)] at HR
      obtain ⟨A2, cap2, rfl, hcap, _, _⟩ := own_form HR
      have c2 := HI.out.b2.cell
      have f2 := HI.out.b2.frozen
      have l2 := HI.out.b2.lt
      have k0 := HI.out.b2
      have k1 := k0.set_ 0 (.slice A2 k cap2)
      have k2 := k1.set_ 1 (.int .i64 a.lo)
      have k3 := k2.set_ 2 (.int .i64 a.hi)
      have k4 := k3.set_ 3 (.int .i64 a.cur)
      have k5 := k4.set_ 4 (.int .i64 a.lim)
      have r1 := row_set (i := 0) (u := .slice A2 k cap2) HR k0 (by decide)
      have r2 := row_set (i := 1) (u := .int .i64 a.lo) r1 k1 (by decide)
      have r3 := row_set (i := 2) (u := .int .i64 a.hi) r2 k2 (by decide)
      have r4 := row_set (i := 3) (u := .int .i64 a.cur) r3 k3 (by decide)
      have r5 := row_set (i := 4) (u := .int .i64 a.lim) r4 k4 (by decide)
      have hlw : w.heap.size ≤ w.heap.size + 1 := by omega
      have m1 := HI.out.low.setCell (p := ⟨w.heap.size + 1, 0, none⟩) hlw (.slice A2 k cap2)
      have m2 := m1.setCell (p := ⟨w.heap.size + 1, 1, none⟩) hlw (.int .i64 a.lo)
      have m3 := m2.setCell (p := ⟨w.heap.size + 1, 2, none⟩) hlw (.int .i64 a.hi)
      have m4 := m3.setCell (p := ⟨w.heap.size + 1, 3, none⟩) hlw (.int .i64 a.cur)
      have m5 := m4.setCell (p := ⟨w.heap.size + 1, 4, none⟩) hlw (.int .i64 a.lim)
      have K5 := Lib.hid k5
      have R5 := Lib.hid r5
      have M5 := Lib.hid m5
      clear k0 k1 k2 k3 k4 k5 r1 r2 r3 r4 r5 m1 m2 m3 m4 m5 HR
      go_wp2_with fail
      have ck := K5.out.cell
      refine bodyPost_ret (v := .agg #[.slice A2 k cap2, .int .i64 a.lo, .int .i64 a.hi, .int .i64 a.cur, .int .i64 a.lim]) (by simp [results, Tryz.results26, go_sem, ck]) rfl ⟨_, A2, cap2, rfl, by rw [HL.out], ?_, by rw [HL.out]; exact hcap, M5.out⟩
      rw [HL.out]
      exact row_base R5.out (by omega)
theorem sentOk_of {l : List Od} (ho : ∀ o ∈ l, orderE o = 0) (h : l.length ≤ 8) : SentOk l :=
  ⟨fun o hm => by have := order_zero (ho o hm); omega, fun o hm => by have := order_zero (ho o hm); omega, h⟩
theorem erase_split (l : List Od) (q : Nat) : l.eraseIdx q = l.take q ++ l.drop (q + 1) := List.eraseIdx_eq_take_drop_succ l q
theorem ords_all {a : Ar} {l : List Od} (hE : armE a = 0) (hl : l.length ≤ 256) (ho : ∀ o ∈ l, orderE o = 0) : ordsE a l = 0 := by
  have := ords_take (a := a) (l := l) l.length hE hl ho
  rw [List.take_of_length_le (Nat.le_refl _)] at this
  exact this
theorem wrk_cases {a : Ar} {l : List Od} (hO : ordsE a l = 0) : (∃ b, goTo a l = some b ∧ wrkE a l = 0) ∨ (∃ k b, ∃ hk : k < l.length, goTo a (l.take k) = some b ∧ stepE b l[k] ≠ 0 ∧ wrkE a l = stepE b l[k]) := by
  rcases goTo_or l a with ⟨b, h⟩ | ⟨k, b, hk, h1, h2⟩
  · exact .inl ⟨b, h, by unfold wrkE; rw [hO, fol_all h, or0_yes]⟩
  · exact .inr ⟨k, b, hk, h1, h2, wrk_err hO (run_at hk h1 h2)⟩
theorem wrk_app {a : Ar} {x y : List Od} (hO : ordsE a (x ++ y) = 0) (hx : ordsE a x = 0) (h : wrkE a x ≠ 0) : wrkE a (x ++ y) = wrkE a x := by
  rcases wrk_cases hx with ⟨b, _, h0⟩ | ⟨k, b, hk, h1, h2, h3⟩
  · exact absurd h0 h
  · have hk2 : k < (x ++ y).length := by rw [List.length_append]; omega
    have e1 : (x ++ y).take k = x.take k := List.take_append_of_le_length (Nat.le_of_lt hk)
    have e2 : (x ++ y)[k] = x[k] := List.getElem_append_left hk
    rw [h3, ← e2]
    refine wrk_err hO (run_at hk2 (by rw [e1]; exact h1) (by rw [e2]; exact h2))
theorem wrk_four {a : Ar} {l : List Od} (hO : ordsE a l = 0) (h : wrkE a l ≠ 0) : wrkE a l = 31 ∨ wrkE a l = 18 ∨ wrkE a l = 21 ∨ wrkE a l = 30 := by
  rcases wrk_cases hO with ⟨b, _, h0⟩ | ⟨k, b, hk, _, h2, h3⟩
  · exact absurd h0 h
  · rw [h3]; exact stepE_four h2
theorem logL_len : ∀ (l : List Od) (a : Ar), (logL a l).length = l.length
  | [], _ => rfl
  | o :: r, a => congrArg (· + 1) (logL_len r (stepA a o))
theorem logL_pre : ∀ (x y : List Od) (a : Ar), (logL a (x ++ y)).take x.length = logL a x
  | [], _, _ => rfl
  | o :: r, y, a => by
    show (_ :: logL (stepA a o) (r ++ y)).take (r.length + 1) = _ :: logL (stepA a o) r
    rw [List.take_succ_cons, logL_pre r y (stepA a o)]
theorem logV_ok {a : Ar} {l : List Od} (h : wrkE a l = 0) : logV a l = logL a l := if_pos h
theorem run_bd {a : Ar} {l : List Od} : (runGo 0 a l).2.1 ≤ l.length := by
  have : ∀ (l : List Od) (a : Ar) (k : Nat), (runGo k a l).2.1 ≤ k + l.length := by
    intro l
    induction l with
    | nil => intro a k; exact Nat.zero_le _
    | cons o r ih =>
      intro a k
      show (if stepE a o = 0 then _ else _ : Ar × Nat × Int).2.1 ≤ _
      split
      · have := ih (stepA a o) (k + 1)
        rw [List.length_cons]
        omega
      · show k ≤ _
        omega
  have := this l a 0
  omega
/-- An arm by value that a call returns. -/
def ArU (w : World) (r : Ar) (k er : Int) (e : Ending) (w' : World) : Prop := ∃ A c, e = .returned (.tuple #[.agg #[.slice A r.m.length c, .int .i64 r.lo, .int .i64 r.hi, .int .i64 r.cur, .int .i64 r.lim], .int .i64 k, .int .i64 er]) ∧ MsAt w' w'.heap.size A r.m.length r.m ∧ Below w.heap.size w w'
theorem run_uni {a : Ar} {l : List Od} {n : Nat} {w w' : World} {e : Ending} (hn : a.m.length = n) (hE : armE a = 0) (ho : ∀ o ∈ l, orderE o = 0) (hO : ordsE a l = 0) (h : RunRes w a l n e w') : ArU w (runGo 0 a l).1 (runGo 0 a l).2.1 (runGo 0 a l).2.2 e w' := by
  obtain ⟨hb, ⟨b, g, _, hg, he, hk⟩ | ⟨h1, _⟩ | ⟨j, b, hj, _, hg, hne, rfl⟩⟩ := h
  · rw [runGo_all hg]
    obtain ⟨_, hS⟩ := goTo_ok hE ho hg
    have hbl : b.m.length = n := hS.len.trans hn
    refine ⟨some ⟨g, 0, none⟩, n, ?_, ?_, hb⟩
    · rw [he, hbl]
      have := same_mk hS
      rw [this]
      rfl
    · rw [hbl]
      exact (BlkArm.at (b := b) hk hbl).more (Blk.lt hk)
  · exact absurd hO h1
  · rw [run_at hj hg hne]
    exact ⟨none, 0, rfl, ⟨rfl, fun h => absurd h (Nat.lt_irrefl 0)⟩, hb⟩
/-- Two rows of bytes that grow. -/
structure Two (W : World) (base : Nat) (v u : Value) (xs ys : List Int) : Prop where
  a : W.ownsRow base 5 1 v xs.length (xs.map (.int .u8))
  b : W.ownsRow base 5 1 u ys.length (ys.map (.int .u8))
  ne : ∀ k, v.ownBlock = some k → u.ownBlock ≠ some k
theorem Two.kept {W W' : World} {base : Nat} {v u : Value} {xs ys : List Int} (h : Two W base v u xs ys) (hb : Below W.heap.size W W') : Two W' base v u xs ys := ⟨own_kept h.a hb, own_kept h.b hb, h.ne⟩
theorem own_lt {W : World} {base n : Nat} {e : TypeId} {v : Value} {xs : List Value} (h : W.ownsRow base e 1 v n xs) {k : Nat} (hk : v.ownBlock = some k) : k < W.heap.size := by
  rcases h.2 with ⟨rfl, _⟩ | ⟨g, cap, cur, rfl, _, hg, _⟩
  · simp [Value.ownBlock] at hk
  · obtain rfl : g = k := by simpa [Value.ownBlock] using hk
    exact (Array.getElem?_eq_some_iff.1 hg).1
theorem Two.swap {W : World} {base : Nat} {v u : Value} {xs ys : List Int} (h : Two W base v u xs ys) : Two W base u v ys xs := ⟨h.b, h.a, fun k hk hv => h.ne k hv hk⟩
theorem Two.app {W W' : World} {base g cap : Nat} {v u : Value} {xs ys zs : List Int} (h : Two W base v u xs ys) (ho : W'.ownsRow base 5 1 (.slice (some ⟨g, 0, none⟩) (xs.length + zs.length) cap) (xs.length + zs.length) (xs.map (.int .u8) ++ zs.map (.int .u8))) (hg : W.grownBy W' v.ownBlock) (hl : v.ownBlock = some g ∨ g = W.heap.size) : Two W' base (.slice (some ⟨g, 0, none⟩) (xs.length + zs.length) cap) u (xs ++ zs) ys := by
  refine ⟨by rw [List.length_append, List.map_append]; exact ho, ?_, fun k hk hu => ?_⟩
  · refine h.b.kept hg ?_
    cases hv : u.ownBlock with
    | none => exact .inl rfl
    | some k => exact .inr (fun e => h.ne k e.symm hv)
  · have hk' : g = k := by simpa [Value.ownBlock] using hk
    subst hk'
    rcases hl with hl | rfl
    · exact h.ne _ hl hu
    · exact Nat.lt_irrefl _ (own_lt h.b hu)
theorem wpList_two {P : Program} {ops : Array Oper} {rest : List Oper} {o : Oper} {a : Act} {Q : Exit → Act → World → Prop} {w : World} (t : TypeId) (E : Elem P t 5 1 1) (hgd : o.guard = none) (s x : Operand)
    (ho : o.op = .call { callee := .builtin .append, args := #[s, x], argTypes := #[t, t] }) (base : Nat) (v u : Value) (xs ys zs : List Int) (hs : a.eval s = v) (h2 : Two w base v u xs ys) (b m c B : Nat) (hx : a.eval x = .slice (some ⟨b, 0, none⟩) m c)
    (hr : Reads w B 1 (some ⟨b, 0, none⟩) m (zs.map (.int .u8))) (hz : zs.length = m) (hm : 0 < m) (h63 : xs.length + m ≤ 140737488355328) (hbase : base ≤ w.heap.size)
    (h : ∀ g cap w', Two w' base (.slice (some ⟨g, 0, none⟩) (xs.length + m) cap) u (xs ++ zs) ys → Below base w w' → (∀ k t' cs, t' ≠ 5 → Blk w k t' cs → Blk w' k t' cs) → wpList P ops Q rest (a.put o.dst (.slice (some ⟨g, 0, none⟩) (xs.length + m) cap)) w') :
    wpList P ops Q (o :: rest) a w := by
  obtain ⟨ht, ⟨i, z, h1', h2', h3', h4', h5'⟩, hp⟩ := E
  subst hz
  refine wpList_append_lies w hgd s x t ho base 5 i z 1 1 ht h1' h2' h3' h4' h5' hp v xs.length _ hs h2.a ⟨b, 0, none⟩ zs.length c (zs.map (.int .u8)) hx (by simp) (fun j u' hu => ?_) (fun u' hu => by obtain ⟨y, _, rfl⟩ := List.mem_map.1 hu; rfl) hm (by unfold maxLen; omega) (by omega) hbase _ rfl ?_
  · obtain ⟨b', o', e, _, hc⟩ := hr.2 hm
    cases e
    rw [Addr.add_lit]
    exact hc j u' hu
  · intro g cap w' hown hg hl _
    refine h g cap w' (h2.app hown hg hl) ((Below.refl base w).grown hg hbase (fun k hk => ?_)) (fun k t' cs ht' hk => ?_)
    · rcases h2.a.2 with ⟨rfl, _⟩ | ⟨g2, cap2, cur, rfl, hb2, _⟩
      · simp [Value.ownBlock] at hk
      · have : g2 = k := by simp [Value.ownBlock] at hk; exact hk
        omega
    · exact (hg.block k hk.lt (fun e => own_ne h2.a hk ht' e.symm)).trans hk
theorem range_lost : ∀ n2, n2 ≤ 8 → ∀ q, q < n2 → lostL (((List.range n2).map fun (i : Nat) => 100 + (i : Int)).eraseIdx q) = if 0 < q ∧ q + 1 < n2 then [100 + (q : Int)] else [] := by decide
theorem odsT_c (l : List Od) : (odsT l).map Tl.c = (List.range l.length).map fun (i : Nat) => 100 + (i : Int) := by
  apply List.ext_getElem
  · simp [odsT_len]
  · intro i h1 h2
    rw [List.getElem_map, List.getElem_map, List.getElem_range, odsT_get l (by simpa [odsT_len] using h1)]
    rfl
theorem erase_c (l : List Od) (q : Nat) : ((odsT l).eraseIdx q).map Tl.c = ((List.range l.length).map fun (i : Nat) => 100 + (i : Int)).eraseIdx q := by rw [map_erase, odsT_c]
theorem erase_o (l : List Od) (q : Nat) : ((odsT l).eraseIdx q).map tlO = l.eraseIdx q := by rw [map_erase, odsT_back]
theorem erase_ct {l : List Od} (q : Nat) (h8 : l.length ≤ 8) : CtOk (((odsT l).eraseIdx q).map Tl.c) := by
  rw [erase_c]
  refine ⟨fun c hc => ?_, fun i h => ?_, ?_⟩
  · have := List.mem_of_mem_eraseIdx hc
    obtain ⟨i, hi, rfl⟩ := List.mem_map.1 this
    have := List.mem_range.1 hi
    omega
  · simp only [List.getElem_eraseIdx, List.getElem_map, List.getElem_range]
    split <;> split <;> omega
  · rw [List.length_eraseIdx]
    split <;> simp <;> omega
theorem erase_good {l : List Od} (h : SentOk l) (q : Nat) : ∀ t ∈ (odsT l).eraseIdx q, GoodTel t.s t.c t.v ∧ t.s = 7 := fun t ht => by
  have := List.mem_of_mem_eraseIdx ht
  obtain ⟨i, hi, rfl⟩ := List.getElem_of_mem this
  rw [odsT_len] at hi
  rw [odsT_get l hi]
  exact ⟨odF_good h hi, rfl⟩
theorem ods_snoc (T : List Tl) {k : Nat} (hk : k < T.length) : ods ((T.map tlO).take (k + 1)) = ods ((T.map tlO).take k) ++ [.int .i64 (T[k].v 0), .int .i64 (T[k].v 1)] := by
  unfold ods
  rw [List.take_succ_eq_append_getElem (by simpa using hk), List.flatMap_append]
  simp [tlO, Od.cells]
theorem flat_take {fs : List (List Int)} {k : Nat} (hk : k < fs.length) : (fs.take (k + 1)).flatten = (fs.take k).flatten ++ fs[k] := by
  rw [List.take_succ_eq_append_getElem hk, List.flatten_append]
  simp
theorem flat_bd {fs : List (List Int)} (h : ∀ f ∈ fs, f.length = 16) (h8 : fs.length ≤ 8) (k : Nat) : (fs.take k).flatten.length ≤ 128 := by
  rw [frames_len (fun f hf => h f (List.mem_of_mem_take hf)), List.length_take]
  omega
/-- A byte that comes wrong. -/
def xorB (b : Int) (u : Nat) : Int := ((b.toNat ^^^ (1 + u % 255) : Nat) : Int)
theorem xorB_bd {b : Int} (u : Nat) (h : 0 ≤ b ∧ b ≤ 255) : 0 ≤ xorB b u ∧ xorB b u ≤ 255 := by
  have h1 : b.toNat < 2 ^ 8 := by omega
  have h2 : 1 + u % 255 < 2 ^ 8 := by omega
  have := Nat.xor_lt_two_pow h1 h2
  unfold xorB
  omega
theorem xorB_ne {b : Int} (u : Nat) (h : 0 ≤ b ∧ b ≤ 255) : xorB b u ≠ b := by
  intro he
  unfold xorB at he
  have h3 : b.toNat ^^^ (1 + u % 255) = b.toNat := by omega
  have h4 : b.toNat ^^^ (b.toNat ^^^ (1 + u % 255)) = b.toNat ^^^ b.toNat := by rw [h3]
  rw [← Nat.xor_assoc, Nat.xor_self, Nat.zero_xor] at h4
  omega
def xB (l : List Od) (q j u : Nat) : Int := if h : q < l.length ∧ j < 16 then xorB ((odF l[q] q)[j]'(by unfold odF; rw [frame_len]; exact h.2) % 256) u else 0
theorem xB_bd (l : List Od) (q j u : Nat) : 0 ≤ xB l q j u ∧ xB l q j u ≤ 255 := by
  unfold xB
  split
  · exact xorB_bd u (by omega)
  · omega
theorem odF_byte {l : List Od} (h : SentOk l) {q j : Nat} (hq : q < l.length) (hj : j < (odF l[q] q).length) : 0 ≤ (odF l[q] q)[j] ∧ (odF l[q] q)[j] ≤ 255 := frame_bytes (odF_good h hq) _ (List.getElem_mem hj)
theorem xB_at {l : List Od} (hs : SentOk l) {q j u : Nat} (hq : q < l.length) (hj : j < 16) : xB l q j u = xorB ((odF l[q] q)[j]'(by unfold odF; rw [frame_len]; exact hj)) u := by
  have hb := odF_byte hs hq (j := j) (by unfold odF; rw [frame_len]; exact hj)
  unfold xB
  rw [dif_pos ⟨hq, hj⟩, Int.emod_eq_of_lt (by omega) (by omega)]
theorem xB_ne {l : List Od} (hs : SentOk l) {q j u : Nat} (hq : q < l.length) (hj : j < 16) : xB l q j u ≠ (odF l[q] q)[j]'(by unfold odF; rw [frame_len]; exact hj) := by
  rw [xB_at hs hq hj]
  exact xorB_ne u (odF_byte hs hq (by unfold odF; rw [frame_len]; exact hj))
theorem run_len {a : Ar} {l : List Od} (hE : armE a = 0) (ho : ∀ o ∈ l, orderE o = 0) : (runGo 0 a l).1.m.length ≤ a.m.length := by
  rcases goTo_or l a with ⟨b, h⟩ | ⟨k, b, hk, h1, h2⟩
  · rw [runGo_all h]
    exact Nat.le_of_eq (goTo_ok hE ho h).2.len
  · rw [run_at hk h1 h2]
    exact Nat.zero_le _
theorem told_r {W : World} {A : Option Addr} {c : Nat} {r : Ar} (hm : MsAt W W.heap.size A r.m.length r.m) (hn : r.m.length ≤ 1000) :
    Calls Tryz.prog 26 #[.agg #[.slice A r.m.length c, .int .i64 r.lo, .int .i64 r.hi, .int .i64 r.cur, .int .i64 r.lim]] W fun e w' => ∃ A' c', e = .returned (.agg #[.slice A' r.m.length c', .int .i64 r.lo, .int .i64 r.hi, .int .i64 r.cur, .int .i64 r.lim]) ∧ MsAt w' w'.heap.size A' r.m.length r.m ∧ Below W.heap.size W w' := by
  refine (clampTold_any W.heap.size A r.m.length c r W hm (Nat.le_refl _) hn).mono ?_
  rintro e w' ⟨v, A', c', rfl, rfl, ho, hc, hb⟩
  obtain ⟨A2, c2, e2, _, _, hr⟩ := own_form ho
  cases e2
  exact ⟨A', c', rfl, hr, hb⟩
theorem log_uni {w w' : World} {lg : List (List Int)} {er : Int} {e : Ending} (h : LogRes w er lg e w') : ∃ A c vs, e = .returned (.tuple #[.slice A lg.length c, .int .i64 er]) ∧ LgS w.heap.size (.slice A lg.length c) vs lg w' ∧ Below w.heap.size w w' := by
  obtain ⟨v, vs, rfl, ho, _, hin, hb⟩ := h
  obtain ⟨A, c, rfl, _, _, _⟩ := own_form ho
  exact ⟨A, c, vs, rfl, ⟨ho, hin⟩, hb⟩
theorem smp_fine {l : List Int} (h : ∀ z ∈ l, 0 ≤ z ∧ z ≤ 16384) : ∀ x ∈ l.map smp, sampE x = 0 := fun x hx => by
  obtain ⟨z, hz, rfl⟩ := List.mem_map.1 hx
  exact (smp_ok (h z hz)).1
theorem logL_in : ∀ {l : List Od} {a b : Ar}, armE a = 0 → (∀ o ∈ l, orderE o = 0) → goTo a l = some b → ∀ r ∈ logL a l, ∀ z ∈ r, 0 ≤ z ∧ z ≤ 16384
  | [], _, _, _, _, _, r, hr => by cases hr
  | o :: t, a, b, hE, ho, hg, r, hr => by
    have hg' : (if stepE a o = 0 then goTo (stepA a o) t else none) = some b := hg
    split at hg'
    · rename_i h0
      have h1 : goTo a [o] = some (stepA a o) := by show (if stepE a o = 0 then goTo (stepA a o) [] else none) = _; rw [if_pos h0]; rfl
      obtain ⟨hE2, _⟩ := goTo_ok hE (fun x hx => by rw [List.mem_singleton.1 hx]; exact ho o List.mem_cons_self) h1
      rcases List.mem_cons.1 hr with rfl | hr
      · intro z hz
        obtain ⟨x, hx, rfl⟩ := List.mem_map.1 hz
        exact (fit_of hE2).q x hx
      · exact logL_in hE2 (fun x hx => ho x (List.mem_cons_of_mem _ hx)) hg' r hr
    · cases hg'
end Go.Proofs.YtafnebfchhmgcaaGreat
