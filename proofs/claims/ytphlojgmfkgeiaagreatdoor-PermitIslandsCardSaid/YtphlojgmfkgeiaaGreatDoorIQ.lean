/- Islands, further: the rows that the law PermitIslands builds; in plain words. -/
import Derived.Test.YtphlojgmfkgeiaaGreatDoorIP
import Derived.Test.YtphlojgmfkgeiaaGreatDoorNQ
import Derived.Test.YtphlojgmfkgeiaaGreatDoorEE
import Derived.Test.YtphlojgmfkgeiaaGreatDoorDP
namespace Go.Proofs.YtphlojgmfkgeiaaGreatDoor
open Go.RowKit Go.Sort Go.Shelf
/-- The number of the island of i, while the first j sections of island k are written. -/
def ofP (ls : List (List Int)) (k j : Nat) (i : Int) : Int := if hasI ((ls[k]?.getD []).take j) i then (k : Int) else ofAt (ls.take k) 0 i
theorem ofP_zero (ls : List (List Int)) (k : Nat) (i : Int) : ofP ls k 0 i = ofAt (ls.take k) 0 i := by
  unfold ofP
  rw [List.take_zero]
  rfl
theorem hasI_snoc (l : List Int) (x i : Int) : hasI (l ++ [x]) i = (hasI l i || i == x) := by
  rw [Bool.eq_iff_iff, hasI_iff, Bool.or_eq_true, hasI_iff, List.mem_append, List.mem_singleton, beq_iff_eq]
theorem ofP_step {ls : List (List Int)} {k j : Nat} (hk : k < ls.length) (hj : j < ls[k].length) (i : Int) : (if i = ls[k][j] then (k : Int) else ofP ls k j i) = ofP ls k (j + 1) i := by
  unfold ofP
  rw [List.getElem?_eq_getElem hk, show ((some ls[k]).getD []) = ls[k] from rfl]
  have e : hasI (ls[k].take (j + 1)) i = (hasI (ls[k].take j) i || i == ls[k][j]) := by rw [List.take_succ_eq_append_getElem hj, hasI_snoc]
  simp only [e]
  by_cases h : i = ls[k][j]
  · rw [if_pos h, if_pos (by rw [h]; simp)]
  · simp only [if_neg h, beq_eq_false_iff_ne.2 h, Bool.or_false]
theorem ofP_end {ls : List (List Int)} {k : Nat} (hk : k < ls.length) (h : ∀ i ∈ ls[k], ofAt (ls.take k) 0 i = -1) (i : Int) : ofP ls k ls[k].length i = ofAt (ls.take (k + 1)) 0 i := by
  have e1 := ofAt_app (ls.take k) ls[k] 0 i
  rw [← List.take_succ_eq_append_getElem hk] at e1
  have e2 : (ls.take k).length = k := by rw [List.length_take]; omega
  have e3 : ofP ls k ls[k].length i = if hasI ls[k] i then (k : Int) else ofAt (ls.take k) 0 i := by
    unfold ofP
    have : (ls[k]?.getD []).take ls[k].length = ls[k] := by rw [List.getElem?_eq_getElem hk]; exact List.take_length
    simp only [this]
  rw [e1, e3, e2]
  cases e : hasI ls[k] i with
  | true => rw [if_pos rfl, if_pos (h i ((hasI_iff _ _).1 e)), if_pos rfl, Nat.zero_add]
  | false =>
    simp only [Bool.false_eq_true, if_false]
    split
    · rename_i h; exact h
    · rfl
theorem ofP_new {y : Yd} (hP : Parts y) {k j : Nat} (hk : k < (islsL y).length) (hj : j < (islsL y)[k].length) : (islsL y)[k][j] ∈ rng y.s.length ∧ ofP (islsL y) k j (islsL y)[k][j] = -1 := by
  obtain ⟨h1, h2, h3⟩ := of_new hP hk hj
  refine ⟨h1, ?_⟩
  unfold ofP
  have e : hasI (((islsL y)[k]?.getD []).take j) (islsL y)[k][j] = false := by
    cases hq : hasI (((islsL y)[k]?.getD []).take j) (islsL y)[k][j] with
    | false => rfl
    | true =>
      have := (hasI_iff _ _).1 hq
      rw [List.getElem?_eq_getElem hk] at this
      exact absurd this h3
  rw [e]
  exact h2
theorem ofP_last {y : Yd} (hP : Parts y) {k : Nat} (hk : k < (islsL y).length) (i : Int) : ofP (islsL y) k (islsL y)[k].length i = ofAt ((islsL y).take (k + 1)) 0 i :=
  ofP_end hk (fun i hi => by
    obtain ⟨j, hj, rfl⟩ := List.getElem_of_mem hi
    exact (of_new hP hk hj).2.1) i
/-- Sources. -/
theorem fed_step {y : Yd} {l : List Int} {j : Nat} (hj : j < l.length) : fedB y (l.take (j + 1)) = (fedB y (l.take j) || srcAt y.s l[j]) := by
  unfold fedB
  rw [List.take_succ_eq_append_getElem hj, List.any_append]
  simp
theorem srcAt_nat {s : List Sec} {i : Nat} (h : i < s.length) : srcAt s (i : Int) = s[i].src := by
  unfold srcAt
  rw [Int.toNat_natCast, List.getElem?_eq_getElem h]
  rfl
/-- Earths. -/
def earOne (i : Int) (x : Sw) : Bool := x.k.toList == earthL && x.c && x.a == i
def earTo (y : Yd) (l : List Int) (j : Nat) : Bool := (l.take j).any fun i => y.w.any (earOne i)
def earMid (y : Yd) (l : List Int) (j : Nat) (i : Int) (m : Nat) : Bool := earTo y l j || (y.w.take m).any (earOne i)
theorem earMid_zero (y : Yd) (l : List Int) (j : Nat) (i : Int) : earMid y l j i 0 = earTo y l j := by simp [earMid]
theorem earMid_step {y : Yd} {l : List Int} {j m : Nat} {i : Int} (hm : m < y.w.length) : earMid y l j i (m + 1) = (earMid y l j i m || earOne i y.w[m]) := by
  unfold earMid
  rw [List.take_succ_eq_append_getElem hm, List.any_append, Bool.or_assoc]
  simp
theorem earMid_end {y : Yd} {l : List Int} {j : Nat} (hj : j < l.length) : earMid y l j l[j] y.w.length = earTo y l (j + 1) := by
  unfold earMid earTo
  rw [List.take_length, List.take_succ_eq_append_getElem hj, List.any_append]
  simp
theorem earTo_end (y : Yd) (l : List Int) : earTo y l l.length = y.w.any (earthHit l) := by
  unfold earTo
  rw [List.take_length, Bool.eq_iff_iff, List.any_eq_true, List.any_eq_true]
  constructor
  · rintro ⟨i, hi, h⟩
    obtain ⟨x, hx, h⟩ := List.any_eq_true.1 h
    unfold earOne at h
    simp only [Bool.and_eq_true, beq_iff_eq] at h
    refine ⟨x, hx, ?_⟩
    unfold earthHit
    simp only [Bool.and_eq_true, beq_iff_eq, hasI_iff]
    exact ⟨h.1, h.2 ▸ hi⟩
  · rintro ⟨x, hx, h⟩
    unfold earthHit at h
    simp only [Bool.and_eq_true, beq_iff_eq, hasI_iff] at h
    refine ⟨x.a, h.2, List.any_eq_true.2 ⟨x, hx, ?_⟩⟩
    unfold earOne
    simp only [Bool.and_eq_true, beq_iff_eq]
    exact ⟨h.1, trivial⟩
/-- What an island's sections are. -/
theorem isl_alike {y : Yd} (hP : Parts y) {l : List Int} (hl : l ∈ islsL y) {i : Int} (hi : i ∈ l) : hasI (enL y) i = fedB y l ∧ hasI (earL y) i = earTo y l l.length := by
  obtain ⟨h1, h2⟩ := isls_mem hP hl hi
  rw [earTo_end]
  unfold enL earL
  rw [those_has h1, those_has h1]
  unfold energB earthedB
  rw [← h2]
  exact ⟨rfl, rfl⟩
theorem isls_len8 {y : Yd} (hP : Parts y) {l : List Int} (h : l ∈ islsL y) : l.length ≤ 8 := by
  obtain ⟨i, hi, rfl, _⟩ := isls_of h
  exact Nat.le_trans (isl_len (all := false) hP.ends hi) hP.n8
/-- Some switches are opened. -/
def opTo (l : List Sw) (m : Nat) : List Sw := (l.take m).map opX ++ l.drop m
theorem opTo_zero (l : List Sw) : opTo l 0 = l := by simp [opTo]
theorem opTo_len (l : List Sw) (m : Nat) : (opTo l m).length = l.length := by
  unfold opTo
  rw [List.length_append, List.length_map, List.length_take, List.length_drop]
  omega
theorem opTo_all (l : List Sw) : opTo l l.length = l.map opX := by simp [opTo]
theorem opTo_at {l : List Sw} {m i : Nat} (hi : i < l.length) : (opTo l m)[i]? = some (if i < m then opX l[i] else l[i]) := by
  unfold opTo
  by_cases h : i < m
  · rw [if_pos h, List.getElem?_append_left (by rw [List.length_map, List.length_take]; omega), List.getElem?_map, List.getElem?_take_of_lt h, List.getElem?_eq_getElem hi]
    rfl
  · rw [if_neg h, List.getElem?_append_right (by rw [List.length_map, List.length_take]; omega), List.getElem?_drop, List.length_map, List.length_take]
    rw [show m + (i - min m l.length) = i by omega, List.getElem?_eq_getElem hi]
theorem opTo_step {l : List Sw} {m : Nat} (hm : m < l.length) : (opTo l m).modify m (fun x => { x with c := (opX l[m]).c }) = opTo l (m + 1) := by
  refine List.ext_getElem? fun i => ?_
  rw [List.getElem?_modify]
  rcases Nat.lt_or_ge i l.length with hi | hi
  · rw [opTo_at hi, opTo_at hi]
    by_cases h : m = i
    · subst h
      rw [if_neg (by omega), if_pos (by omega)]
      show some (ite (m = m) _ _) = some _
      rw [if_pos rfl]
      congr 1
      obtain ⟨g1, g2, g3, g4⟩ := opX_same l[m]
      generalize opX l[m] = z at *
      obtain ⟨zn, zk, za, zb, zc⟩ := z
      generalize l[m] = x at *
      obtain ⟨xn, xk, xa, xb, xc⟩ := x
      dsimp only at g1 g2 g3 g4
      subst g1 g2 g3 g4
      rfl
    · by_cases h3 : i < m
      · rw [if_pos h3, if_pos (by omega)]
        show some (ite (m = i) _ _) = some _
        rw [if_neg h]
      · rw [if_neg h3, if_neg (by omega)]
        show some (ite (m = i) _ _) = some _
        rw [if_neg h]
  · rw [List.getElem?_eq_none (by rw [opTo_len]; exact hi), List.getElem?_eq_none (by rw [opTo_len]; exact hi)]
    rfl
theorem opTo_same {l : List Sw} {m : Nat} (hm : m < l.length) (h : (opX l[m]).c = l[m].c) : opTo l m = opTo l (m + 1) := by
  rw [← opTo_step hm, h]
  refine List.ext_getElem? fun i => ?_
  rw [List.getElem?_modify]
  rcases Nat.lt_or_ge i l.length with hi | hi
  · rw [opTo_at hi]
    by_cases h3 : m = i
    · subst h3
      rw [if_neg (by omega)]
      show some _ = some (ite (m = m) _ _)
      rw [if_pos rfl]
    · show some _ = some (ite (m = i) _ _)
      rw [if_neg h3]
  · rw [List.getElem?_eq_none (by rw [opTo_len]; exact hi)]
    rfl
theorem opX_breaker {x : Sw} (h : (x.k.toList == breakerL) = true) : (opX x).c = true := by unfold opX; rw [if_pos h]
theorem opX_earth {x : Sw} (h : (x.k.toList == earthL) = true) : (opX x).c = false := by
  have h1 : (x.k.toList == breakerL) = false := by rw [eq_of_beq h]; rfl
  unfold opX
  rw [h1, h]
  rfl
theorem opX_other {x : Sw} (h : (x.k.toList == breakerL) = false) (h2 : (x.k.toList == earthL) = false) : (opX x).c = x.c := by unfold opX; rw [h, h2]; rfl
/-- Permits of the same island. -/
def heldTo (y : Yd) (a : Int) (m : Nat) : Bool := (y.p.take m).any fun p => ofAt (islsL y) 0 p.s == ofAt (islsL y) 0 a
theorem heldTo_step {y : Yd} {a : Int} {m : Nat} (hm : m < y.p.length) : heldTo y a (m + 1) = (heldTo y a m || (ofAt (islsL y) 0 y.p[m].s == ofAt (islsL y) 0 a)) := by
  unfold heldTo
  rw [List.take_succ_eq_append_getElem hm, List.any_append]
  simp
theorem heldTo_end (y : Yd) (a : Int) : heldTo y a y.p.length = y.p.any fun p => ofAt (islsL y) 0 p.s == ofAt (islsL y) 0 a := by
  unfold heldTo
  rw [List.take_length]
def sepL (y : Yd) : List Int := those y.s.length (sepB y)
def secL (y : Yd) : List Int := those y.s.length (secB y)
/-- What the last loop asks. -/
theorem last_ok {y : Yd} (hP : Parts y) {i : Int} (hi : i ∈ rng y.s.length) :
    hasI (enL (opened y)) i = !hasI (sepL y) i ∧ hasI (secL y) i = (hasI (sepL y) i && hasI (earL y) i) ∧ (hasI (secL y) i && hasI (enL y) i) = false := by
  unfold enL sepL secL earL
  rw [those_has hi, those_has hi, those_has hi, those_has hi]
  rw [show (opened y).s.length = y.s.length from rfl, those_has hi, opened_energ]
  refine ⟨rfl, rfl, ?_⟩
  unfold secB
  cases h : sepB y i with
  | false => rfl
  | true => rw [sep_energ hP hi h, Bool.and_false]
theorem lt_step (k s : Nat) : (if s = k then (-1 : Int) else if s < k then -1 else 0) = if s < k + 1 then -1 else 0 := by
  by_cases h : s = k
  · rw [if_pos h, if_pos (by omega)]
  · rw [if_neg h]
    by_cases h2 : s < k
    · rw [if_pos h2, if_pos (by omega)]
    · rw [if_neg h2, if_neg (by omega)]
theorem fits_opened {y : Yd} (h : Fits y) : Fits (opened y) :=
  ⟨h.s9, by show (y.w.map opX).length ≤ 9; rw [List.length_map]; exact h.w9, Nat.zero_le _, h.sn, fun x hx => by
    obtain ⟨z, hz, rfl⟩ := List.mem_map.1 hx
    rw [(opX_same z).1]
    exact h.wn z hz, fun x hx => by cases hx⟩
def opMid (l : List Sw) (m : Nat) (q : Bool) : List Sw := if q then opTo l (m + 1) else opTo l m
theorem opMid_len (l : List Sw) (m : Nat) (q : Bool) : (opMid l m q).length = l.length := by
  unfold opMid
  split <;> exact opTo_len _ _
/-- A row of lists that reads as these. -/
def IlQ (W : World) (A : Option Addr) (vs : List Value) (zss : List (List Int)) : Prop := Reads W W.heap.size 1 A zss.length vs ∧ ∀ (j : Nat) (v : Value) (zs : List Int), vs[j]? = some v → zss[j]? = some zs → ∃ A' c', v = .slice A' zs.length c' ∧ Reads W W.heap.size 1 A' zs.length (zs.map (.int .i64))
theorem ilq_kept {W W' : World} {A : Option Addr} {vs : List Value} {zss : List (List Int)} (h : IlQ W A vs zss) (hb : Below W.heap.size W W') : IlQ W' A vs zss :=
  ⟨rd_kept h.1 hb, fun j v zs hv hz => let ⟨A', c', e, r⟩ := h.2 j v zs hv hz; ⟨A', c', e, rd_kept r hb⟩⟩
theorem ilq_at {W : World} {A : Option Addr} {vs : List Value} {zss : List (List Int)} (h : IlQ W A vs zss) (j : Nat) (hj : j < zss.length) : ∃ b o A' c', A = some ⟨b, o, none⟩ ∧ b < W.heap.size ∧ W.cell? ⟨b, o + j, none⟩ = some (.slice A' zss[j].length c') ∧ Reads W W.heap.size 1 A' zss[j].length (zss[j].map (.int .i64)) := by
  obtain ⟨b, o, u, e, hb, hu, hc⟩ := h.1.at_ hj
  obtain ⟨A', c', rfl, r⟩ := h.2 j u _ hu (List.getElem?_eq_getElem hj)
  exact ⟨b, o, A', c', e, hb, hc, r⟩
/-- What the law has read of the yard. -/
structure IsF (w : World) (y : Yd) (A0 A1 A2 : Option Addr) (n0 n1 n2 c0 c1 c2 : Nat) (A3 A4 A5 A6 A7 A8 : Option Addr) (vs : List Value) (W : World) : Prop where
  il : IlQ W A3 vs (islsL y)
  ra : Reads W W.heap.size 1 A4 (enL y).length ((enL y).map (.int .i64))
  rb : Reads W W.heap.size 1 A5 (earL y).length ((earL y).map (.int .i64))
  rc : Reads W W.heap.size 1 A6 (sepL y).length ((sepL y).map (.int .i64))
  rd : Reads W W.heap.size 1 A7 (secL y).length ((secL y).map (.int .i64))
  rl : Reads W W.heap.size 1 A8 (leftL y).length ((leftL y).map .string)
  box : Blk W w.heap.size 26 #[.slice A0 n0 c0, .slice A1 n1 c1, .slice A2 n2 c2]
  low : Below w.heap.size w W
theorem IsF.kept {w : World} {y : Yd} {A0 A1 A2 : Option Addr} {n0 n1 n2 c0 c1 c2 : Nat} {A3 A4 A5 A6 A7 A8 : Option Addr} {vs : List Value} {W W' : World} (h : IsF w y A0 A1 A2 n0 n1 n2 c0 c1 c2 A3 A4 A5 A6 A7 A8 vs W) (hb : Below W.heap.size W W') : IsF w y A0 A1 A2 n0 n1 n2 c0 c1 c2 A3 A4 A5 A6 A7 A8 vs W' :=
  ⟨ilq_kept h.il hb, rd_kept h.ra hb, rd_kept h.rb hb, rd_kept h.rc hb, rd_kept h.rd hb, rd_kept h.rl hb, h.box.kept hb, h.low.trans (hb.mono h.low.size)⟩
/-- The yard that is opened, while it is made: rows of the call's own. -/
structure OwC (base : Nat) (y : Yd) (l : List Sw) (D0 D1 : Option Addr) (d0 d1 : Nat) (W : World) : Prop where
  r0 : W.ownsRow base 133 2 (.slice D0 y.s.length d0) y.s.length (secs y.s)
  r1 : W.ownsRow base 70 5 (.slice D1 l.length d1) l.length (sws l)
theorem OwC.kept {base : Nat} {y : Yd} {l : List Sw} {D0 D1 : Option Addr} {d0 d1 : Nat} {W W' : World} (h : OwC base y l D0 D1 d0 d1 W) (hb : Below W.heap.size W W') : OwC base y l D0 D1 d0 d1 W' := ⟨own_kept h.r0 hb, own_kept h.r1 hb⟩
/-- A store into a block of another type. -/
theorem OwC.far {base : Nat} {y : Yd} {l : List Sw} {D0 D1 : Option Addr} {d0 d1 : Nat} {W : World} {k i : Nat} {t : TypeId} {c : Array Value} (h : OwC base y l D0 D1 d0 d1 W) (hk : Blk W k t c) (h1 : 133 ≠ t) (h2 : 70 ≠ t) (u : Value) : OwC base y l D0 D1 d0 d1 (W.setCell ⟨k, i, none⟩ u) :=
  ⟨row_set h.r0 hk h1, row_set h.r1 hk h2⟩
/-- A block of another type is not the row of switches. -/
theorem OwC.gne {base : Nat} {y : Yd} {l : List Sw} {D0 : Option Addr} {d0 d1 g k : Nat} {W : World} {t : TypeId} {c : Array Value} (h : OwC base y l D0 (some ⟨g, 0, none⟩) d0 d1 W) (hk : Blk W k t c) (ht : t ≠ 70) : k ≠ g := by
  rintro rfl
  exact row_own_neW h.r1 hk ht rfl
theorem row_rd {w : World} {base e size n c : Nat} {A : Option Addr} {xs : List Value} (h : w.ownsRow base e size (.slice A n c) n xs) : Reads w w.heap.size size A n xs := by
  obtain ⟨A', cap, e, _, _, r⟩ := own_form h
  cases e
  exact r
/-- A switch is set in the row. -/
theorem OwC.close {base : Nat} {y : Yd} {l : List Sw} {D0 D1 : Option Addr} {d0 d1 : Nat} {W : World} (h : OwC base y l D0 D1 d0 d1 W) {m : Nat} (hm : m < l.length) :
    ∃ g, D1 = some ⟨g, 0, none⟩ ∧ base ≤ g ∧ g < W.heap.size ∧ (∃ u, W.cell? ⟨g, m * 5 + 4, none⟩ = some u) ∧ W.frozen? ⟨g, m * 5 + 4, none⟩ = false ∧ ∀ q, OwC base y (l.modify m fun x => { x with c := q }) D0 D1 d0 d1 (W.setCell ⟨g, m * 5 + 4, none⟩ (.bool q)) := by
  rcases h.r1.2 with ⟨hv, hn⟩ | ⟨g, cap, cur, hv, hb, hg, r⟩
  · exact absurd hn (by omega)
  · have hr := h.r1
    cases hv
    have hO : Own W base 70 5 g l.length d1 (sws l) := hr
    have hlv := own_live hO (m * 5 + 4) (by omega)
    refine ⟨g, rfl, hb, hO.lt.2, Option.isSome_iff_exists.1 hlv.2.1, hlv.2.2, fun q => ?_⟩
    obtain ⟨k1, k2⟩ := World.ownsRow.stored hO (m * 5 + 4) (.bool q)
    have e : (sws l).set (m * 5 + 4) (.bool q) = sws (l.modify m fun x => { x with c := q }) := by
      have := congrArg Array.toList (sws_set l m q hm)
      rwa [Array.toList_setIfInBounds] at this
    rw [e] at k1
    refine ⟨h.r0.kept k2 (.inr (row_own_neW h.r0 (show Blk W g _ cur from hg) (by decide))), ?_⟩
    rw [List.length_modify]
    exact k1
end Go.Proofs.YtphlojgmfkgeiaaGreatDoor
