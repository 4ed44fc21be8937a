/- Plain: what the law of modules compares. -/
import Derived.Test.YtfpjcnkfoehhmaaGreatDoorDH
import Derived.Test.YtfpjcnkfoehhmaaGreatDoorQd
namespace Go.Proofs.YtfpjcnkfoehhmaaGreatDoor
open Go Go.RowKit
theorem mods_bad {a : Ar} (hE : armE a ≠ 0) (nm : ByteArray) (q m : Int) : bypE a nm = armE a ∧ repE a nm q = armE a ∧ resE a m = armE a ∧ resV a m = 0 := by
  have h1 : ∀ (b x : Int), or0 (firstE [armE a, b]) x = armE a := fun b x => by
    rw [firstE_cons]
    unfold or0
    rw [if_neg hE, if_neg hE]
  have h3 : resE a m = armE a := h1 _ _
  refine ⟨h1 _ _, h1 _ _, h3, ?_⟩
  unfold resV
  rw [h3, if_neg hE]
theorem mods_none {a : Ar} (hE : armE a = 0) {nm : ByteArray} (hi : mdIdx a.m nm < 0) (q : Int) : bypE a nm = 10 ∧ repE a nm q = 10 := by
  unfold bypE repE
  rw [hE, decide_eq_true hi]
  exact ⟨rfl, rfl⟩
theorem bytes_eq {x z : ByteArray} (h : (x.toList == z.toList) = true) : x = z := by
  have h2 := eq_of_beq h
  rw [toList_data, toList_data] at h2
  exact ByteArray.ext (Array.toList_inj.1 h2)
def replE (a : Ar) (x : Md) (q : Int) : Int := firstE [whenE (!x.by_) 22, ckR q 0 16384, whenE (!inB a.lo a.hi q) 30]
theorem mods_some {a : Ar} (hE : armE a = 0) {nm : ByteArray} (hi : 0 ≤ mdIdx a.m nm) (q : Int) : ∃ k, ∃ h : k < a.m.length, mdIdx a.m nm = (k : Int) ∧ (a.m[k]).n = nm ∧
    bypE a nm = whenE (a.m[k]).by_ 9 ∧ repE a nm q = replE a a.m[k] q ∧ bypA a nm = putM a k ⟨(a.m[k]).n, (a.m[k]).q, false, true⟩ ∧ (repE a nm q = 0 → repA a nm q = putM a k ⟨nm, q, false, false⟩) := by
  have hF := fit_of hE
  obtain ⟨k, hk, e, hp⟩ := idxP_some hi
  rw [Nat.zero_add] at e
  have e : mdIdx a.m nm = (k : Int) := e
  have hn := bytes_eq hp
  have hg : a.m[(mdIdx a.m nm).toNat]? = some a.m[k] := by rw [e, Int.toNat_natCast, List.getElem?_eq_getElem hk]
  have hneg : decide ((k : Int) < 0) = false := by simp
  have hr : repE a nm q = replE a a.m[k] q := by
    unfold repE
    rw [hg, e, hE, hneg]
    rfl
  refine ⟨k, hk, e, hn, ?_, hr, ?_, fun h0 => ?_⟩
  · unfold bypE
    rw [hg, e, hE, hneg]
    rfl
  · unfold bypA
    rw [hg, e, Int.toNat_natCast]
    rfl
  · rw [hr] at h0
    unfold replE at h0
    rw [firstE_cons] at h0
    have hb : (a.m[k]).by_ = true := by simpa using whenE_zero (by decide) (or0_zero h0).1
    have hon : (a.m[k]).on = false := by
      cases ho : (a.m[k]).on with
      | false => rfl
      | true => have := hF.cf _ (List.getElem_mem hk) ho; rw [hb] at this; cases this
    unfold repA
    rw [hg, e, Int.toNat_natCast]
    show putM a k (repM a.m[k] q) = _
    unfold repM
    rw [hn, hon]
theorem res_ok {a : Ar} (hE : armE a = 0) (m : Int) : resE a m = or0 (ckR m 0 16) (whenE (decide (((usL a).length : Int) - m < 0)) 18) := by
  unfold resE
  rw [firstE_cons, firstE_cons, firstE_nil, hE]
  unfold or0
  by_cases h : ckR m 0 16 = 0 <;> simp [h]
/-- The reference's guaranteed steps. -/
theorem guar_at {a : Ar} {f k : Nat} (hf : f + k = 256) (h : guarL a = guarGo a f k) {i : Nat} (hi : i < a.m.length) (hh : hitB a (((k : Int) + 1) * a.cur) a.m[i] = true) (h0 : 0 < f) : guarL a = k := by
  obtain ⟨f, rfl⟩ : ∃ g, f = g + 1 := ⟨f - 1, by omega⟩
  rw [h]
  show (if _ then _ else _) = _
  rw [List.any_eq_true.2 ⟨_, List.getElem_mem hi, hh⟩, if_pos rfl]
theorem guar_on {a : Ar} {f k : Nat} (h : guarL a = guarGo a (f + 1) k) (hno : ∀ i, (hi : i < a.m.length) → hitB a (((k : Int) + 1) * a.cur) a.m[i] = false) : guarL a = guarGo a f (k + 1) := by
  rw [h]
  show (if _ then _ else _) = _
  rw [if_neg]
  intro hh
  obtain ⟨x, hx, hy⟩ := List.any_eq_true.1 hh
  obtain ⟨i, hi, e⟩ := List.mem_iff_getElem.1 hx
  have := hno i hi
  rw [e, hy] at this
  cases this
end Go.Proofs.YtfpjcnkfoehhmaaGreatDoor
