/- A queue: a row of ints of the call's own that may have lost its head. -/
import Derived.Test.YtphlojgmfkgeiaaGreatDoorKh
namespace Go.Proofs.YtphlojgmfkgeiaaGreatDoor
open Go.RowKit Go.Sort Go.Shelf
structure Que (W : World) (base b off n cap : Nat) (xs : List Int) : Prop where
  lo : base ≤ b
  len : xs.length = n
  le : n ≤ cap
  max : cap ≤ maxLen
  cur : ∃ cur, Blk W b 3 cur ∧ off + cap ≤ cur.size ∧ ∀ (j : Nat) (u : Int), xs[j]? = some u → cur[off + j]? = some (.int .i64 u)
section
variable {W W' : World} {base b off n cap : Nat} {xs : List Int} {x : Int} {X : List Nat}
theorem Que.lt (h : Que W base b off n cap xs) : b < W.heap.size := let ⟨_, hb, _⟩ := h.cur; hb.lt
theorem Que.cellAt (h : Que W base b off n cap xs) (j : Nat) (u : Int) (hu : xs[j]? = some u) : W.cell? ⟨b, off + j, none⟩ = some (.int .i64 u) := by
  obtain ⟨cur, hb, _, hc⟩ := h.cur
  rw [hb.cell]
  exact hc j u hu
theorem Que.reads (h : Que W base b off n cap xs) : Reads W (b + 1) 1 (some ⟨b, off, none⟩) n (xs.map (.int .i64)) :=
  ⟨by simp [h.len], fun _ => ⟨b, off, rfl, Nat.lt_succ_self _, fun j u hu => by
    rw [List.getElem?_map] at hu
    cases hx : xs[j]? with
    | none => rw [hx] at hu; cases hu
    | some z => rw [hx] at hu; cases hu; exact h.cellAt j z hx⟩⟩
theorem Que.same (h : Que W base b off n cap xs) (he : W'.heap[b]? = W.heap[b]?) : Que W' base b off n cap xs :=
  ⟨h.lo, h.len, h.le, h.max, let ⟨cur, hb, hs, hc⟩ := h.cur; ⟨cur, he.trans hb, hs, hc⟩⟩
theorem Que.kept (h : Que W base b off n cap xs) (hb : Below W.heap.size W W') : Que W' base b off n cap xs := h.same (hb.block b h.lt)
theorem Que.ex (h : Que W base b off n cap xs) (hb : Ex X W W') (hX : b ∉ X) : Que W' base b off n cap xs := h.same (hb.block b h.lt hX)
theorem Que.tail (h : Que W base b off (n + 1) cap (x :: xs)) : Que W base b (off + 1) n (cap - 1) xs := by
  obtain ⟨cur, hb, hs, hc⟩ := h.cur
  have hl := h.len
  have hle := h.le
  have hm := h.max
  refine ⟨h.lo, by simpa using hl, by omega, by omega, cur, hb, by omega, fun j u hu => ?_⟩
  have := hc (j + 1) u (by simpa using hu)
  rw [← this]
  congr 1
  omega
theorem Que.tail1 (h : Que W base b off (n + 1) 1 (x :: xs)) : Que W base b off n 0 xs := by
  obtain ⟨cur, hb, hs, hc⟩ := h.cur
  have hl := h.len
  have hle := h.le
  obtain rfl : xs = [] := List.eq_nil_of_length_eq_zero (by simp at hl; omega)
  obtain rfl : n = 0 := by omega
  exact ⟨h.lo, rfl, Nat.le_refl _, Nat.zero_le _, cur, hb, by omega, fun j u hu => by simp at hu⟩
theorem Que.lit (W : World) (base : Nat) (h : base ≤ W.heap.size) (z : Int) : Que (W.alloc (.cells #[.int .i64 z] 3)) base W.heap.size 0 1 1 [z] :=
  ⟨h, rfl, Nat.le_refl _, by unfold maxLen; decide, _, Blk.new _ _ _, Nat.le_refl _, fun j u hu => by
    cases j with
    | zero => simp at hu; subst hu; rfl
    | succ j => simp at hu⟩
theorem run_append_que {P : Program} (t ty : TypeId) (i : TypeInfo) (zv : Value) (ht : P.underlying t = some (.slice 3)) (hi : P.info? 3 = some i) (hz : i.zero = some zv) (hsz : i.size = 1) (hby : i.bytes = 8) (hzs : zv.cells.size = 1)
    (h : Que W base b off n cap xs) (z : Int) (bl c : Nat) (hbl : W.cell? ⟨bl, 0, none⟩ = some (.int .i64 z)) (hn : n + 1 ≤ 100000) (hbase : base ≤ W.heap.size) :
    ∃ b' off' cap' W', (Builtin.append_ #[t, t] ty #[.slice (some ⟨b, off, none⟩) n cap, .slice (some ⟨bl, 0, none⟩) 1 c]).run P W = .ok (.slice (some ⟨b', off', none⟩) (n + 1) cap') W' ∧ Que W' base b' off' (n + 1) cap' (xs ++ [z]) ∧ W.grownBy W' (some b) ∧ (b' = b ∨ b' = W.heap.size) := by
  obtain ⟨cur, hb, hs, hc⟩ := h.cur
  have hl := h.len
  have hnews : ∀ j u, [Value.int .i64 z][j]? = some u → W.cell? ((⟨bl, 0, none⟩ : Addr).add j) = some u := by
    intro j u hu
    cases j with
    | zero => simp at hu; subst hu; rw [Addr.add_lit]; exact hbl
    | succ j => simp at hu
  by_cases hroom : n + 1 ≤ cap
  · have hW' : ∃ W', W' = W.setRow b (cur.toList.take (off + n) ++ [Value.int .i64 z] ++ cur.toList.drop (off + n + 1)).toArray := ⟨_, rfl⟩
    obtain ⟨W', hW'⟩ := hW'
    have hf := run_firstCells_some (P := P) W i.size 1 ⟨bl, 0, none⟩ 1 c [Value.int .i64 z] (by simp [hsz]) hnews
    rw [hsz] at hf
    have hst := run_storeCells_at P b (off + n) 3 [Value.int .i64 z] 0 cur W hb (by simp; omega) (by intro u hu; simp at hu; subst hu; rfl)
    simp only [Nat.add_zero] at hst
    refine ⟨b, off, cap, W', ?_, ?_, ?_, .inl rfl⟩
    · rw [hW']
      simp [Builtin.append_, run_underlying ht, sizeOf, typeInfo, hi, Builtin.lenOf, hroom, hf, Addr.add_lit, hsz, hst]
    · subst hW'
      refine ⟨h.lo, by simp [hl], hroom, h.max, _, setRow_heap W b cur _ 3 _ hb, ?_, fun j u hu => ?_⟩
      · simp; omega
      · rw [List.getElem?_toArray]
        rcases Nat.lt_or_ge j n with hj | hj
        · rw [List.getElem?_append_left (by omega)] at hu
          have := hc j u hu
          rw [List.append_assoc, List.getElem?_append_left (by simp; omega), List.getElem?_take, if_pos (by omega), Array.getElem?_toList]
          exact this
        · obtain rfl : j = n := by
            have := (List.getElem?_eq_some_iff.1 hu).1
            simp at this
            omega
          rw [List.getElem?_append_right (by omega), hl, Nat.sub_self] at hu
          simp at hu
          subst hu
          rw [List.append_assoc, List.getElem?_append_right (by simp; omega)]
          have e0 : off + j - (List.take (off + j) cur.toList).length = 0 := by simp; omega
          rw [e0]
          rfl
    · subst hW'
      exact ⟨rfl, rfl, rfl, by simp, fun k _ hk => setRow_other W b k _ (fun e => hk (by rw [e]))⟩
  · have holds : ∀ j u, (xs.map (Value.int .i64))[j]? = some u → W.cell? ((⟨b, off, none⟩ : Addr).add j) = some u := by
      intro j u hu
      rw [List.getElem?_map] at hu
      cases hx : xs[j]? with
      | none => rw [hx] at hu; cases hu
      | some v => rw [hx] at hu; cases hu; rw [Addr.add_lit]; exact h.cellAt j v hx
    have hr := run_append_grow (P := P) W t ty 3 i zv ht hi hz ⟨b, off, none⟩ n cap (xs.map (.int .i64)) (by simp [hl, hsz]) holds ⟨bl, 0, none⟩ 1 c [Value.int .i64 z] (by simp [hsz]) hnews (by omega) (by omega) (growslice_fits (by omega) (by rw [hby]; omega))
    have hge := grownCap_ge W (n + 1) cap 3
    have hcm : grownCap W (n + 1) cap 3 ≤ maxLen := grownCap_le_maxLen W (n + 1) cap 3 (by unfold maxLen; omega)
    refine ⟨_, 0, _, _, hr, ⟨hbase, by simp [hl], hge, hcm, _, heap_alloc_new W.drew _, ?_, fun j u hu => ?_⟩, ⟨rfl, rfl, rfl, by simp, fun k hk _ => Below.heap_alloc W.drew _ k hk⟩, .inr rfl⟩
    · simp only [Array.size_append, List.size_toArray, size_zeroCells, hzs, List.length_map, List.length_cons, List.length_nil, hl]
      omega
    · have hj := (List.getElem?_eq_some_iff.1 hu).1
      rw [Nat.zero_add, ← Array.getElem?_toList, Array.toList_append, Array.toList_append, List.getElem?_append_left (by simpa using hj)]
      have : ((xs ++ [z]).map (Value.int .i64))[j]? = some (.int .i64 u) := by rw [List.getElem?_map, hu]; rfl
      simpa using this
theorem wpList_que {P : Program} {ops : Array Oper} {rest : List Oper} {o : Oper} {a : Act} {Q : Exit → Act → World → Prop} (t : TypeId) (E : Elem P t 3 1 8) (hgd : o.guard = none) (s x : Operand)
    (ho : o.op = .call { callee := .builtin .append, args := #[s, x], argTypes := #[t, t] }) (h : Que W base b off n cap xs) (hs : a.eval s = .slice (some ⟨b, off, none⟩) n cap) (z : Int) (bl c : Nat) (hx : a.eval x = .slice (some ⟨bl, 0, none⟩) 1 c) (hbl : W.cell? ⟨bl, 0, none⟩ = some (.int .i64 z)) (hn : n + 1 ≤ 100000) (hbase : base ≤ W.heap.size)
    (hK : ∀ b' off' cap' W', Que W' base b' off' (n + 1) cap' (xs ++ [z]) → W.grownBy W' (some b) → (b' = b ∨ b' = W.heap.size) → wpList P ops Q rest (a.put o.dst (.slice (some ⟨b', off', none⟩) (n + 1) cap')) W') : wpList P ops Q (o :: rest) a W := by
  obtain ⟨ht, ⟨i, zv, h1', h2', h3', h4', h5'⟩, _⟩ := E
  refine wpList_plain hgd fun K hK' => ?_
  obtain ⟨b', off', cap', W', hrun, r1, r2, r3⟩ := run_append_que (P := P) t o.type i zv ht h1' h2' h3' h4' h5' h z bl c hbl hn hbase
  unfold Oper.wp
  simp [execOp, ho, resolve, invoke, builtin, hs, hx, hrun, Result.andThen]
  exact hK' _ _ (hK b' off' cap' W' r1 r2 r3)
end
end Go.Proofs.YtphlojgmfkgeiaaGreatDoor
