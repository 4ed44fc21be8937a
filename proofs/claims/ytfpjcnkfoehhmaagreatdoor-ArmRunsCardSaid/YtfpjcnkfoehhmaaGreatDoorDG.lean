/- Samples of charges: Sample of the reference, its floats; what a log ends with. -/
import Derived.Test.YtfpjcnkfoehhmaaGreatDoorDC
import Derived.Test.YtfpjcnkfoehhmaaGreatDoorQn
import Derived.Test.YtfpjcnkfoehhmaaGreatDoorCM
namespace Go.Proofs.YtfpjcnkfoehhmaaGreatDoor
open Go Go.RowKit Go.Sort Go.Shelf
set_option linter.unusedSimpArgs false
set_option linter.unusedVariables false
attribute [local go_sem] cell_if frozen_if grow_cell
theorem Sample_any (q : Int) (w : World) : Calls Tryz.prog 43 #[.int .i64 q] w fun e w' => e = .returned (.float .f32 (smp q)) ∧ w = w' := by
  have hb := fun W => run_float_arith (P := Tryz.prog) W .quo 75 .f32 _ _ _ (smp_bits q)
  go_enter Tryz.func43, Tryz.ntmps43
  go_wp2_with fail
  go_ret
  exact ⟨rfl, rfl⟩
theorem smp_c0 : (List.range 512).all (fun q => eqF (smp ((0 * 512 + q : Nat) : Int)) (smp ((0 * 512 + q : Nat) : Int))) = true := by decide +kernel
theorem smp_c1 : (List.range 512).all (fun q => eqF (smp ((1 * 512 + q : Nat) : Int)) (smp ((1 * 512 + q : Nat) : Int))) = true := by decide +kernel
theorem smp_c2 : (List.range 512).all (fun q => eqF (smp ((2 * 512 + q : Nat) : Int)) (smp ((2 * 512 + q : Nat) : Int))) = true := by decide +kernel
theorem smp_c3 : (List.range 512).all (fun q => eqF (smp ((3 * 512 + q : Nat) : Int)) (smp ((3 * 512 + q : Nat) : Int))) = true := by decide +kernel
theorem smp_c4 : (List.range 512).all (fun q => eqF (smp ((4 * 512 + q : Nat) : Int)) (smp ((4 * 512 + q : Nat) : Int))) = true := by decide +kernel
theorem smp_c5 : (List.range 512).all (fun q => eqF (smp ((5 * 512 + q : Nat) : Int)) (smp ((5 * 512 + q : Nat) : Int))) = true := by decide +kernel
theorem smp_c6 : (List.range 512).all (fun q => eqF (smp ((6 * 512 + q : Nat) : Int)) (smp ((6 * 512 + q : Nat) : Int))) = true := by decide +kernel
theorem smp_c7 : (List.range 512).all (fun q => eqF (smp ((7 * 512 + q : Nat) : Int)) (smp ((7 * 512 + q : Nat) : Int))) = true := by decide +kernel
theorem smp_c8 : (List.range 512).all (fun q => eqF (smp ((8 * 512 + q : Nat) : Int)) (smp ((8 * 512 + q : Nat) : Int))) = true := by decide +kernel
theorem smp_c9 : (List.range 512).all (fun q => eqF (smp ((9 * 512 + q : Nat) : Int)) (smp ((9 * 512 + q : Nat) : Int))) = true := by decide +kernel
theorem smp_c10 : (List.range 512).all (fun q => eqF (smp ((10 * 512 + q : Nat) : Int)) (smp ((10 * 512 + q : Nat) : Int))) = true := by decide +kernel
theorem smp_c11 : (List.range 512).all (fun q => eqF (smp ((11 * 512 + q : Nat) : Int)) (smp ((11 * 512 + q : Nat) : Int))) = true := by decide +kernel
theorem smp_c12 : (List.range 512).all (fun q => eqF (smp ((12 * 512 + q : Nat) : Int)) (smp ((12 * 512 + q : Nat) : Int))) = true := by decide +kernel
theorem smp_c13 : (List.range 512).all (fun q => eqF (smp ((13 * 512 + q : Nat) : Int)) (smp ((13 * 512 + q : Nat) : Int))) = true := by decide +kernel
theorem smp_c14 : (List.range 512).all (fun q => eqF (smp ((14 * 512 + q : Nat) : Int)) (smp ((14 * 512 + q : Nat) : Int))) = true := by decide +kernel
theorem smp_c15 : (List.range 512).all (fun q => eqF (smp ((15 * 512 + q : Nat) : Int)) (smp ((15 * 512 + q : Nat) : Int))) = true := by decide +kernel
theorem smp_c16 : (List.range 512).all (fun q => eqF (smp ((16 * 512 + q : Nat) : Int)) (smp ((16 * 512 + q : Nat) : Int))) = true := by decide +kernel
theorem smp_c17 : (List.range 512).all (fun q => eqF (smp ((17 * 512 + q : Nat) : Int)) (smp ((17 * 512 + q : Nat) : Int))) = true := by decide +kernel
theorem smp_c18 : (List.range 512).all (fun q => eqF (smp ((18 * 512 + q : Nat) : Int)) (smp ((18 * 512 + q : Nat) : Int))) = true := by decide +kernel
theorem smp_c19 : (List.range 512).all (fun q => eqF (smp ((19 * 512 + q : Nat) : Int)) (smp ((19 * 512 + q : Nat) : Int))) = true := by decide +kernel
theorem smp_c20 : (List.range 512).all (fun q => eqF (smp ((20 * 512 + q : Nat) : Int)) (smp ((20 * 512 + q : Nat) : Int))) = true := by decide +kernel
theorem smp_c21 : (List.range 512).all (fun q => eqF (smp ((21 * 512 + q : Nat) : Int)) (smp ((21 * 512 + q : Nat) : Int))) = true := by decide +kernel
theorem smp_c22 : (List.range 512).all (fun q => eqF (smp ((22 * 512 + q : Nat) : Int)) (smp ((22 * 512 + q : Nat) : Int))) = true := by decide +kernel
theorem smp_c23 : (List.range 512).all (fun q => eqF (smp ((23 * 512 + q : Nat) : Int)) (smp ((23 * 512 + q : Nat) : Int))) = true := by decide +kernel
theorem smp_c24 : (List.range 512).all (fun q => eqF (smp ((24 * 512 + q : Nat) : Int)) (smp ((24 * 512 + q : Nat) : Int))) = true := by decide +kernel
theorem smp_c25 : (List.range 512).all (fun q => eqF (smp ((25 * 512 + q : Nat) : Int)) (smp ((25 * 512 + q : Nat) : Int))) = true := by decide +kernel
theorem smp_c26 : (List.range 512).all (fun q => eqF (smp ((26 * 512 + q : Nat) : Int)) (smp ((26 * 512 + q : Nat) : Int))) = true := by decide +kernel
theorem smp_c27 : (List.range 512).all (fun q => eqF (smp ((27 * 512 + q : Nat) : Int)) (smp ((27 * 512 + q : Nat) : Int))) = true := by decide +kernel
theorem smp_c28 : (List.range 512).all (fun q => eqF (smp ((28 * 512 + q : Nat) : Int)) (smp ((28 * 512 + q : Nat) : Int))) = true := by decide +kernel
theorem smp_c29 : (List.range 512).all (fun q => eqF (smp ((29 * 512 + q : Nat) : Int)) (smp ((29 * 512 + q : Nat) : Int))) = true := by decide +kernel
theorem smp_c30 : (List.range 512).all (fun q => eqF (smp ((30 * 512 + q : Nat) : Int)) (smp ((30 * 512 + q : Nat) : Int))) = true := by decide +kernel
theorem smp_c31 : (List.range 512).all (fun q => eqF (smp ((31 * 512 + q : Nat) : Int)) (smp ((31 * 512 + q : Nat) : Int))) = true := by decide +kernel
theorem smp_top : eqF (smp 16384) (smp 16384) = true := by decide +kernel
theorem smp_at {m k : Nat} (h : (List.range 512).all (fun q => eqF (smp ((m * 512 + q : Nat) : Int)) (smp ((m * 512 + q : Nat) : Int))) = true) (h1 : m * 512 ≤ k) (h2 : k < m * 512 + 512) : eqF (smp (k : Int)) (smp (k : Int)) = true := by
  have := List.all_eq_true.1 h (k - m * 512) (List.mem_range.2 (by omega))
  rwa [show m * 512 + (k - m * 512) = k by omega] at this
theorem smp_eq {q : Int} (h : 0 ≤ q ∧ q ≤ 16384) : eqF (smp q) (smp q) = true := by
  obtain ⟨k, rfl⟩ := Int.eq_ofNat_of_zero_le h.1
  by_cases e : k = 16384
  · subst e
    exact smp_top
  · have hk : k / 512 < 32 := by omega
    have h1 : k / 512 * 512 ≤ k := by omega
    have h2 : k < k / 512 * 512 + 512 := by omega
    generalize k / 512 = m at *
    rcases (by omega : m = 0 ∨ m = 1 ∨ m = 2 ∨ m = 3 ∨ m = 4 ∨ m = 5 ∨ m = 6 ∨ m = 7 ∨ m = 8 ∨ m = 9 ∨ m = 10 ∨ m = 11 ∨ m = 12 ∨ m = 13 ∨ m = 14 ∨ m = 15 ∨ m = 16 ∨ m = 17 ∨ m = 18 ∨ m = 19 ∨ m = 20 ∨ m = 21 ∨ m = 22 ∨ m = 23 ∨ m = 24 ∨ m = 25 ∨ m = 26 ∨ m = 27 ∨ m = 28 ∨ m = 29 ∨ m = 30 ∨ m = 31) with rfl | rfl | rfl | rfl | rfl | rfl | rfl | rfl | rfl | rfl | rfl | rfl | rfl | rfl | rfl | rfl | rfl | rfl | rfl | rfl | rfl | rfl | rfl | rfl | rfl | rfl | rfl | rfl | rfl | rfl | rfl | rfl
    · exact smp_at smp_c0 h1 h2
    · exact smp_at smp_c1 h1 h2
    · exact smp_at smp_c2 h1 h2
    · exact smp_at smp_c3 h1 h2
    · exact smp_at smp_c4 h1 h2
    · exact smp_at smp_c5 h1 h2
    · exact smp_at smp_c6 h1 h2
    · exact smp_at smp_c7 h1 h2
    · exact smp_at smp_c8 h1 h2
    · exact smp_at smp_c9 h1 h2
    · exact smp_at smp_c10 h1 h2
    · exact smp_at smp_c11 h1 h2
    · exact smp_at smp_c12 h1 h2
    · exact smp_at smp_c13 h1 h2
    · exact smp_at smp_c14 h1 h2
    · exact smp_at smp_c15 h1 h2
    · exact smp_at smp_c16 h1 h2
    · exact smp_at smp_c17 h1 h2
    · exact smp_at smp_c18 h1 h2
    · exact smp_at smp_c19 h1 h2
    · exact smp_at smp_c20 h1 h2
    · exact smp_at smp_c21 h1 h2
    · exact smp_at smp_c22 h1 h2
    · exact smp_at smp_c23 h1 h2
    · exact smp_at smp_c24 h1 h2
    · exact smp_at smp_c25 h1 h2
    · exact smp_at smp_c26 h1 h2
    · exact smp_at smp_c27 h1 h2
    · exact smp_at smp_c28 h1 h2
    · exact smp_at smp_c29 h1 h2
    · exact smp_at smp_c30 h1 h2
    · exact smp_at smp_c31 h1 h2
theorem sameF_smp : ∀ {l : List Int}, (∀ q ∈ l, 0 ≤ q ∧ q ≤ 16384) → sameF (l.map smp) (l.map smp) = true
  | [], _ => rfl
  | x :: r, h => by
    rw [List.map_cons, sameF, smp_eq (h x List.mem_cons_self), sameF_smp fun q hq => h q (List.mem_cons_of_mem _ hq)]
    rfl
theorem log_last {o : Od} {pre : List Od} {a b : Ar} (h : goTo a (pre ++ [o]) = some b) : logL a (pre ++ [o]) = logL a pre ++ [b.m.map Md.q] ∧ ∃ b', goTo a pre = some b' := by
  obtain ⟨b', hb'⟩ : ∃ b', goTo a pre = some b' := by
    cases hg : goTo a pre with
    | some b' => exact ⟨b', rfl⟩
    | none =>
      exfalso
      have : ∀ (pre : List Od) (a : Ar), goTo a pre = none → goTo a (pre ++ [o]) = none := by
        intro pre
        induction pre with
        | nil => intro a h; simp [goTo] at h
        | cons x r ih =>
          intro a h
          rw [List.cons_append]
          unfold goTo at h ⊢
          split
          · rename_i h0
            rw [if_pos h0] at h
            exact ih _ h
          · rfl
      rw [this _ _ hg] at h
      cases h
  refine ⟨?_, b', hb'⟩
  rw [logL_snoc hb']
  rw [goTo_snoc hb'] at h
  split at h
  · cases h
    rfl
  · cases h
theorem log_len : ∀ (l : List Od) (a : Ar), (logL a l).length = l.length
  | [], _ => rfl
  | _ :: r, a => congrArg (· + 1) (log_len r (stepA a _))
theorem log_end {l : List Od} {a b : Ar} (h : goTo a l = some b) (h0 : 0 < l.length) : (logL a l)[l.length - 1]? = some (b.m.map Md.q) := by
  obtain ⟨pre, o, rfl⟩ : ∃ pre o, l = pre ++ [o] := by
    have hne : l ≠ [] := by intro e; subst e; cases h0
    exact ⟨l.dropLast, l.getLast hne, (List.dropLast_concat_getLast hne).symm⟩
  obtain ⟨h1, b', h2⟩ := log_last h
  have hlen := log_len pre a
  rw [h1, List.length_append, List.getElem?_append_right (by rw [hlen]; simp)]
  rw [hlen]
  simp
theorem stepA_at {b : Ar} {o : Od} {k : Nat} (h : k < b.m.length) (h' : k < (stepA b o).m.length) : ((stepA b o).m[k]).n = (b.m[k]).n ∧ ((stepA b o).m[k]).by_ = (b.m[k]).by_ := by
  have e : (stepA b o).m[k] = _ := stepMs_at (set := choiceA b o) (c := o.c) h h'
  rw [e]
  exact ⟨rfl, rfl⟩
theorem sumI_bd {f : Md → Int} {M : Int} : ∀ {l : List Md}, (∀ x ∈ l, 0 ≤ f x ∧ f x ≤ M) → 0 ≤ sumI f l ∧ sumI f l ≤ M * (l.length : Int)
  | [], _ => ⟨Int.le_refl _, by show (0 : Int) ≤ M * ((0 : Nat) : Int); rw [Int.natCast_zero, Int.mul_zero]; exact Int.le_refl _⟩
  | x :: r, h => by
    obtain ⟨h1, h2⟩ := sumI_bd (l := r) fun z hz => h z (List.mem_cons_of_mem _ hz)
    have h3 := h x List.mem_cons_self
    rw [sumI_cons, List.length_cons]
    have : M * ((r.length + 1 : Nat) : Int) = M * (r.length : Int) + M := by
      rw [Int.natCast_succ, Int.mul_add, Int.mul_one]
    omega
theorem ener_bd {a : Ar} (h : Fit a) : 0 ≤ enerL a ∧ enerL a ≤ 4294967296 := by
  have h16 := h.n16
  have := sumI_bd (f := fun x => if x.by_ then 0 else x.q * x.q) (M := 268435456) (l := a.m) (fun x hx => by
    have := en_bd h x hx
    unfold enM at this
    show 0 ≤ (if x.by_ then 0 else x.q * x.q) ∧ (if x.by_ then 0 else x.q * x.q) ≤ _
    split <;> omega)
  show 0 ≤ sumI _ a.m ∧ sumI _ a.m ≤ _
  omega
theorem q_bd {l : List Md} {k : Nat} (h : ∀ x ∈ l, 0 ≤ x.q ∧ x.q ≤ 16384) (hl : l.length ≤ 16) : 0 ≤ sumI Md.q (l.take k) ∧ sumI Md.q (l.take k) ≤ 262144 := by
  have h1 := sumI_bd (f := Md.q) (M := 16384) (l := l.take k) (fun x hx => h x (List.mem_of_mem_take hx))
  rw [List.length_take] at h1
  omega
/-- Where the last list of a log lies. -/
structure LgI (b i bu ou n cu : Nat) (m : List Md) (W : World) : Prop where
  lt1 : b < W.heap.size
  c1 : W.cell? ⟨b, i, none⟩ = some (.slice (some ⟨bu, ou, none⟩) n cu)
  lt2 : bu < W.heap.size
  c2 : ∀ k, (h : k < m.length) → W.cell? ⟨bu, ou + k, none⟩ = some (.float .f32 (smp (m[k]).q))
theorem LgI.kept {b i bu ou n cu : Nat} {m : List Md} {W W' : World} (h : LgI b i bu ou n cu m W) (hb : Below W.heap.size W W') : LgI b i bu ou n cu m W' :=
  ⟨Nat.lt_of_lt_of_le h.lt1 hb.size, by rw [hb.cell (p := ⟨b, i, none⟩) h.lt1]; exact h.c1, Nat.lt_of_lt_of_le h.lt2 hb.size, fun k hk => by rw [hb.cell (p := ⟨bu, ou + k, none⟩) h.lt2]; exact h.c2 k hk⟩
theorem log_cells {W : World} {Al : Option Addr} {n2 n p base : Nat} {vs : List Value} {lg : List (List Int)} {m : List Md} (hrd : Reads W W.heap.size 1 Al n2 vs) (hin : ∀ (i : Nat) (u : Value), vs[i]? = some u → ∃ l, lg[i]? = some l ∧ W.ownsRow base 75 1 u l.length (smps l)) (hp : p + 1 = n2) (hlast : lg[p]? = some (m.map Md.q)) (hm : m.length = n) (h0 : 0 < n) :
    ∃ b o bu ou cu, Al = some ⟨b, o, none⟩ ∧ LgI b (o + p) bu ou n cu m W := by
  obtain ⟨b, o, u, rfl, hb, hu, hc⟩ := hrd.at_ (k := p) (by omega)
  obtain ⟨l, hl, hr⟩ := hin p u hu
  rw [hlast] at hl
  cases hl
  obtain ⟨A3, cu, rfl, _, _, hr3⟩ := own_form hr
  rw [List.length_map, hm] at hr3 hc
  obtain ⟨bu, ou, _, rfl, hbu, _, _⟩ := hr3.at_ (k := 0) h0
  refine ⟨b, o, bu, ou, cu, rfl, hb, hc, hbu, fun k hk => ?_⟩
  obtain ⟨b', o', u', e, _, hu', hc'⟩ := hr3.at_ (k := k) (by omega)
  cases e
  rw [hc']
  unfold smps at hu'
  rw [List.map_map, List.getElem?_map, List.getElem?_eq_getElem hk] at hu'
  exact hu'.symm
end Go.Proofs.YtfpjcnkfoehhmaaGreatDoor
