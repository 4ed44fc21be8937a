/- The law TopClampSent. -/
import Derived.Test.YtafnebfchhmgcaaGreatN27
import Derived.Test.YtafnebfchhmgcaaGreatV2
namespace Go.Proofs.YtafnebfchhmgcaaGreat
open Go Go.RowKit Go.Sort Go.Shelf
set_option linter.unusedSimpArgs false
set_option linter.unusedVariables false
attribute [local go_sem] cell_if frozen_if grow_cell
theorem xB_get {l : List Od} (hs : SentOk l) {q j u : Nat} (hq : q < l.length) (hj : j < 16) : xB l q j u = xorB ((odF l[q] q)[j]?.getD 0) u := by
  rw [List.getElem?_eq_getElem (by unfold odF; rw [frame_len]; exact hj)]
  exact xB_at hs hq hj
theorem fr16 {W : World} {g : Nat} {F : List Int} (h : Blk W g 66 (frC F)) (hl : F.length = 16) : Reads W (g + 1) 1 (some ⟨g, 0, none⟩) 16 (F.map (.int .u8)) := by
  have := fr_part F 0 16 h (by omega)
  rw [List.drop_zero, List.take_of_length_le (by omega)] at this
  exact this
theorem Two.exb {W W' : World} {base bx t : Nat} {v u : Value} {xs ys : List Int} {cs : Array Value} (h : Two W base v u xs ys) (he : Ex [bx] W W') (hb : Blk W bx t cs) (ht : t ≠ 5) : Two W' base v u xs ys := by
  have hk : ∀ j c, Blk W j 5 c → Blk W' j 5 c := fun j c hj => (he.block j hj.lt (by
    intro hm
    obtain rfl : j = bx := by simpa using hm
    have h1 : W.heap[j]? = _ := hj
    have h2 : W.heap[j]? = _ := hb
    rw [h1] at h2
    cases h2
    exact ht rfl)).trans hj
  exact ⟨row_same h.a hk, row_same h.b hk, h.ne⟩
theorem tm_nat (a b : Nat) : (a : Int).tmod (b : Int) = ((a % b : Nat) : Int) := rfl
set_option maxRecDepth 1000000 in
set_option maxHeartbeats 16000000 in
theorem sent_any (A A2 : Option Addr) (n c n2 c2 : Nat) (a : Ar) (l : List Od) (p0 p1 p2 : Int) (w : World) (hM : MsAt w w.heap.size A n a.m) (hn : n ≤ maxLen) (hnm : ∀ x ∈ a.m, x.n.size ≤ maxLen) (hO : Reads w w.heap.size 2 A2 n2 (ods l)) (hn2 : n2 ≤ maxLen) (hc2 : n2 ≤ c2) (hp0 : 0 ≤ p0 ∧ p0 ≤ 255) (hp1 : 0 ≤ p1 ∧ p1 ≤ 255) (hp2 : 0 ≤ p2 ∧ p2 ≤ 255) :
    Calls Tryz.prog 4 #[.agg #[.slice A n c, .int .i64 a.lo, .int .i64 a.hi, .int .i64 a.cur, .int .i64 a.lim], .slice A2 n2 c2, .agg #[.int .u8 p0, .int .u8 p1, .int .u8 p2]] w fun e w' => e = .returned (.bool true) ∧ Below w.heap.size w w' := by
  have hl := (md_at hM).1
  have hl2 := (od_at hO).1
  have HAw := Lib.hid (fun W (_ : Below w.heap.size w W) => clampPair_any W)
  have HFi := Lib.hid (fun W (hW : Below w.heap.size w W) => clampFine_any w.heap.size w.heap.size A A2 n c n2 c2 a l W (hM.below hW) hW.size hn hnm (hO.below hW) hW.size hn2)
  have hmx : maxLen = 9223372036854775807 := rfl
  rw [hmx] at hn hn2
  clear hmx
  cases hf : fineB a l with
  | false =>
    as_aux_lemma =>
      rw [hf] at HFi
      clear hM hnm hl hO hl2 hf
      go_enter Tryz.func4, Tryz.ntmps4
      go_wp2_with fail
      refine (HAw.out _ bl_).mono ?_
      rintro e w1 ⟨rfl, hb⟩
      have HA : Hid (Blk w1 (w.heap.size) 26 #[.slice A n c, .int .i64 a.lo, .int .i64 a.hi, .int .i64 a.cur, .int .i64 a.lim]) := Lib.hid bk_
      have HN : Hid (Blk w1 (w.heap.size + 1) 65 #[.int .u8 p0, .int .u8 p1, .int .u8 p2]) := Lib.hid bk_
      have HL : Hid (Below w.heap.size w w1) := Lib.hid bl_
      have hs1 := HL.out.size
      clear hb
      have cHA := HA.out.cell
      have lHA := HA.out.lt
      have cHN := HN.out.cell
      have lHN := HN.out.lt
      go_wp2_with fail
      refine (HFi.out _ HL.out).mono ?_
      rintro e w2 ⟨rfl, hb⟩
      clear cHA lHA cHN lHN
      have hs2 := hb.size
      have HL' := Lib.hid (HL.out.trans (hb.mono HL.out.size)); clear HL; have HL := HL'; clear HL'
      replace HA := Lib.hid (HA.out.kept hb)
      replace HN := Lib.hid (HN.out.kept hb)
      clear hb
      have cHA := HA.out.cell
      have lHA := HA.out.lt
      have cHN := HN.out.cell
      have lHN := HN.out.lt
      go_wp2_with fail
      refine (HAw.out _ HL.out).mono ?_
      rintro e w3 ⟨rfl, hb⟩
      clear cHA lHA cHN lHN
      have hs3 := hb.size
      have HL' := Lib.hid (HL.out.trans (hb.mono HL.out.size)); clear HL; have HL := HL'; clear HL'
      replace HA := Lib.hid (HA.out.kept hb)
      replace HN := Lib.hid (HN.out.kept hb)
      clear hb
      have cHA := HA.out.cell
      have lHA := HA.out.lt
      have cHN := HN.out.cell
      have lHN := HN.out.lt
      go_wp2_with fail
      go_ret
      exact ⟨rfl, HL.out⟩
  | true =>
    rw [hf] at HFi
    obtain ⟨hsh, h8, hE, h28, hro⟩ := fine_of hf
    have hF := short_fit hsh hnm
    have ho := (rords_zero hro).2
    have hOE := ords_of hE hro
    rw [hl] at h8
    have hs8 := h28
    rw [hl2] at h28
    rcases Nat.eq_zero_or_pos n2 with h0 | h0
    · skip
      as_aux_lemma =>
        subst h0
        clear hM hnm hl hO hl2 hf hsh hro hE ho hOE hs8 hF
        go_enter Tryz.func4, Tryz.ntmps4
        go_wp2_with fail
        refine (HAw.out _ bl_).mono ?_
        rintro e w1 ⟨rfl, hb⟩
        have HA : Hid (Blk w1 (w.heap.size) 26 #[.slice A n c, .int .i64 a.lo, .int .i64 a.hi, .int .i64 a.cur, .int .i64 a.lim]) := Lib.hid bk_
        have HN : Hid (Blk w1 (w.heap.size + 1) 65 #[.int .u8 p0, .int .u8 p1, .int .u8 p2]) := Lib.hid bk_
        have HL : Hid (Below w.heap.size w w1) := Lib.hid bl_
        have hs1 := HL.out.size
        clear hb
        have cHA := HA.out.cell
        have lHA := HA.out.lt
        have cHN := HN.out.cell
        have lHN := HN.out.lt
        go_wp2_with fail
        refine (HFi.out _ HL.out).mono ?_
        rintro e w2 ⟨rfl, hb⟩
        clear cHA lHA cHN lHN
        have hs2 := hb.size
        have HL' := Lib.hid (HL.out.trans (hb.mono HL.out.size)); clear HL; have HL := HL'; clear HL'
        replace HA := Lib.hid (HA.out.kept hb)
        replace HN := Lib.hid (HN.out.kept hb)
        clear hb
        have cHA := HA.out.cell
        have lHA := HA.out.lt
        have cHN := HN.out.cell
        have lHN := HN.out.lt
        go_wp2_with fail
        refine (HAw.out _ HL.out).mono ?_
        rintro e w3 ⟨rfl, hb⟩
        clear cHA lHA cHN lHN
        have hs3 := hb.size
        have HL' := Lib.hid (HL.out.trans (hb.mono HL.out.size)); clear HL; have HL := HL'; clear HL'
        replace HA := Lib.hid (HA.out.kept hb)
        replace HN := Lib.hid (HN.out.kept hb)
        clear hb
        have cHA := HA.out.cell
        have lHA := HA.out.lt
        have cHN := HN.out.cell
        have lHN := HN.out.lt
        go_wp2_with fail
        go_ret
        exact ⟨rfl, HL.out⟩
    · skip
      obtain ⟨m, hm⟩ : ∃ m, n2 = m + 1 := ⟨n2 - 1, by omega⟩
      have hq2 : n2 ≤ 1000 := by omega
      have hSe := sentOk_of ho hs8
      obtain ⟨u0, rfl⟩ := Int.eq_ofNat_of_zero_le hp0.1
      obtain ⟨u1, rfl⟩ := Int.eq_ofNat_of_zero_le hp1.1
      obtain ⟨u2, rfl⟩ := Int.eq_ofNat_of_zero_le hp2.1
      obtain ⟨q, hq⟩ : ∃ q, u0 % n2 = q := ⟨_, rfl⟩
      obtain ⟨j, hj⟩ : ∃ j, u1 % 16 = j := ⟨_, rfl⟩
      have hqn : q < n2 := by rw [← hq]; exact Nat.mod_lt _ h0
      have hj16 : j < 16 := by rw [← hj]; exact Nat.mod_lt _ (by decide)
      have HOw := Lib.hid (fun W (hW : Below w.heap.size w W) => clampArm_r w.heap.size A n c a W (hM.below hW) hW.size (by omega))
      have HOd := Lib.hid (fun W (hW : Below w.heap.size w W) => clampOrders_any w.heap.size A2 n2 c2 l W (hO.below hW) hW.size hq2)
      have HOk := Lib.hid (fun W k (hk : k ≤ n2) (hW : Below w.heap.size w W) => clampOrders_any w.heap.size A2 k c2 (l.take k) W ((reads_ods hO hk).below hW) hW.size (by omega))
      unfold OdsRes at HOd HOk
      unfold OwnC at HOw
      have HEn := Lib.hid (⟨hE, ho, hF, hOE, hl, hl2⟩ : armE a = 0 ∧ (∀ o ∈ l, orderE o = 0) ∧ FitA a ∧ ordsE a l = 0 ∧ a.m.length = n ∧ l.length = n2)
      have HSe := Lib.hid hSe
      have HOs := Lib.hid hO
      have HMm := Lib.hid hm
      have HQq := Lib.hid hq
      have HJj := Lib.hid hj
      have hn0 : ¬ ((n2 : Int) = 0) := by omega
      have hn00 : ((n2 : Int) == 0) = false := by simpa using hn0
      have HW1 : Hid (u1 ≤ 255) := Lib.hid (by omega)
      have hw0 : wrap64 (u0 : Int) = (u0 : Int) := by unfold wrap64; omega
      obtain ⟨ux, hux⟩ : ∃ ux : Nat, u2 % 255 = ux := ⟨_, rfl⟩
      have hx3 : ux ≤ 254 := by omega
      have HX2 := Lib.hid hux
      have HQt : Hid ((wrap64 (u0 : Int)).tmod (n2 : Int) = (q : Int)) := Lib.hid (by rw [hw0, tm_nat, hq])
      clear hw0
      have HJt : Hid (Value.int .i64 ((u1 : Int).tmod 16) = Value.int .i64 (j : Int)) := Lib.hid (congrArg _ ((tm_nat u1 16).trans (by rw [hj])))
      have HUt : Hid (Value.int .u8 ((u2 : Int).tmod 255) = Value.int .u8 (ux : Int)) := Lib.hid (congrArg _ ((tm_nat u2 255).trans (by rw [hux])))
      clear hm hq hj hux
      clear hM hnm hO hF hsh hro hE ho hOE hl hl2 hf hs8 hSe hp0 hp1
      go_enter Tryz.func4, Tryz.ntmps4
      go_wp2_with fail
      refine (HAw.out _ bl_).mono ?_
      rintro e w1 ⟨rfl, hb⟩
      have HA : Hid (Blk w1 (w.heap.size) 26 #[.slice A n c, .int .i64 a.lo, .int .i64 a.hi, .int .i64 a.cur, .int .i64 a.lim]) := Lib.hid bk_
      have HN : Hid (Blk w1 (w.heap.size + 1) 65 #[.int .u8 (u0 : Int), .int .u8 (u1 : Int), .int .u8 (u2 : Int)]) := Lib.hid bk_
      have HL : Hid (Below w.heap.size w w1) := Lib.hid bl_
      have hs1 := HL.out.size
      clear hb
      have cHA := HA.out.cell
      have lHA := HA.out.lt
      have cHN := HN.out.cell
      have lHN := HN.out.lt
      go_wp2_with fail
      refine (HFi.out _ HL.out).mono ?_
      rintro e w2 ⟨rfl, hb⟩
      clear cHA lHA cHN lHN
      have hs2 := hb.size
      have HL' := Lib.hid (HL.out.trans (hb.mono HL.out.size)); clear HL; have HL := HL'; clear HL'
      replace HA := Lib.hid (HA.out.kept hb)
      replace HN := Lib.hid (HN.out.kept hb)
      clear hb
      have cHA := HA.out.cell
      have lHA := HA.out.lt
      have cHN := HN.out.cell
      have lHN := HN.out.lt
      go_upto_block 0 with fail
      rw [HQt.out]
      refine wp_world ?_
      intro W0 hW0
      have hb0 : Below w2.heap.size w2 W0 := by rw [hW0]; exact Below.refl _ _
      have HA0 := Lib.hid (HA.out.kept hb0)
      have HN0 := Lib.hid (HN.out.kept hb0)
      have HL0 := Lib.hid (HL.out.trans (hb0.mono HL.out.size))
      clear hW0 hb0 cHA lHA cHN lHN HA HN HL
      have HxB : Hid (0 ≤ xB l q j u2 ∧ xB l q j u2 ≤ 255) := Lib.hid (xB_bd l q j u2)
      have HxN := Lib.hid (xB_ne HSe.out (by rw [HEn.out.2.2.2.2.2]; exact hqn) hj16 (u := u2))
      have HFg := Lib.hid (frames_of HSe.out)
      have HFb := Lib.hid (frames_bad HSe.out q j (xB_bd l q j u2))
      have HFl : Hid ((odsF l).length = n2) := Lib.hid (by rw [odsF_len, HEn.out.2.2.2.2.2])
      have HBl : Hid ((badF l q j (xB l q j u2)).length = n2) := Lib.hid (by rw [badF_len, HEn.out.2.2.2.2.2])
      have hlw : w.heap.size ≤ W0.heap.size := HL0.out.size
      go_cut [7, 8] (fun s7 s8 wx => ∃ v u, s7 = v ∧ s8 = u ∧ Two wx W0.heap.size v u (odsF l).flatten (badF l q j (xB l q j u2)).flatten ∧ Below W0.heap.size W0 wx)
      case first =>
        go_wp2_with fail
        go_loopw [7, 8, 61] (fun s7 s8 s61 wr => ∃ (k : Nat) (v u : Value), k ≤ n2 ∧ s61 = .int .i64 (k : Int) ∧ s7 = v ∧ s8 = u ∧ Two wr W0.heap.size v u ((odsF l).take k).flatten ((badF l q j (xB l q j u2)).take k).flatten ∧ Below W0.heap.size W0 wr) (fun _ _ s61 _ => n2 - (intOf s61).toNat)
        case atStart => exact ⟨0, _, _, by omega, rfl, rfl, rfl, ⟨World.ownsRow_nil _ _ _ _, World.ownsRow_nil _ _ _ _, fun k hk => by simp [Value.ownBlock] at hk⟩, Below.refl _ _⟩
        case round =>
          obtain ⟨k, v, u, hk, rfl, rfl, rfl, h2, hb⟩ := hrel
          have H2 := Lib.hid h2
          have HB := Lib.hid hb
          have hsr := hb.size
          clear h2 hb
          by_cases hlt : k < n2
          · skip
            have hkl : k < l.length := by rw [HEn.out.2.2.2.2.2]; exact hlt
            have hkI : (k : Int) < (n2 : Int) := by omega
            obtain ⟨bo, oo, eo, hbo, y0, y1⟩ := (od_at (HOs.out.below (HL0.out.trans (HB.out.mono hlw)))).2 k hkl
            have hbow : bo < wr.heap.size := by omega
            have HGd := odF_good HSe.out hkl
            have hfl := frame_len 7 (100 + (k : Int)) (odV l[k].n l[k].c)
            have HEc := fun W => Encode_any 7 (100 + (k : Int)) (odV l[k].n l[k].c) W HGd
            have hfk : k < (odsF l).length := by rw [HFl.out]; exact hlt
            have hbk : k < (badF l q j (xB l q j u2)).length := by rw [HBl.out]; exact hlt
            have HTf := Lib.hid (flat_take hfk)
            have HTb := Lib.hid (flat_take hbk)
            have hgb := badF_get l q j (xB l q j u2) hkl
            have hlen1 := flat_bd HFg.out.len (by rw [HFl.out]; exact h28) k
            have hlen2 := flat_bd HFb.out.len (by rw [HBl.out]; exact h28) k
            rw [odsF_get l hkl] at HTf
            have hgb' : (badF l q j (xB l q j u2))[k] = if q = k then (odF l[k] k).set j (xB l q j u2) else odF l[k] k := hgb
            have Hgb := Lib.hid hgb'
            have HxF : Hid (q = k → xB l q j u2 = xorB ((odF l[k] k)[j]?.getD 0) u2) := Lib.hid (fun e => by subst e; exact xB_get HSe.out hkl hj16)
            generalize xB l q j u2 = xx at *
            generalize ((odsF l).take k).flatten = Xs at *
            generalize ((badF l q j xx).take k).flatten = Ys at *
            simp only [odV] at HEc
            generalize l[k] = o at *
            obtain ⟨on, oc⟩ := o
            dsimp only at y0 y1 HEc
            obtain ⟨F, hF⟩ : ∃ F, odF ⟨on, oc⟩ k = F := ⟨_, rfl⟩
            have hF2 : frameB 7 (100 + (k : Int)) (odV on oc) = F := hF
            rw [hF2] at HEc hfl
            rw [hF] at HTf Hgb HxF
            obtain ⟨x0, x1, x2, x3, x4, x5, x6, x7, x8, x9, x10, x11, x12, x13, x14, x15, hx⟩ := list16 hfl
            have hFv : (F.map (Value.int .u8)).toArray = #[.int .u8 x0, .int .u8 x1, .int .u8 x2, .int .u8 x3, .int .u8 x4, .int .u8 x5, .int .u8 x6, .int .u8 x7, .int .u8 x8, .int .u8 x9, .int .u8 x10, .int .u8 x11, .int .u8 x12, .int .u8 x13, .int .u8 x14, .int .u8 x15] := by rw [hx]; rfl
            rw [hFv] at HEc
            have HEc2 := Lib.hid HEc
            have HFl16 := Lib.hid hfl
            have HFb2 : Hid (∀ b ∈ F, 0 ≤ b ∧ b ≤ 255) := Lib.hid (by rw [← hF2]; exact frame_bytes HGd)
            have HFv := Lib.hid hFv
            subst eo
            clear hgb hgb' hF hF2 hFv hx HEc hfl HGd
            go_upto_region 11 with (go_at_call 21; refine (HEc2.out _).mono ?_; rintro e w3 ⟨rfl, hb3⟩; have hs3 := hb3.size; simp at hs3)
            refine wp_world ?_
            intro W4 hW4
            have hb4 : Below wr.heap.size wr W4 := by rw [hW4]; exact (((Below.refl _ _).alloc (Nat.le_refl _) _).trans (hb3.mono (by simp))).trans ((Below.refl _ _).alloc (by omega) _)
            have HX4 := Lib.hid (show Blk W4 w3.heap.size 66 (frC F) from by rw [hW4]; show Blk _ _ _ (F.map (Value.int .u8)).toArray; rw [HFv.out]; exact Blk.new _ _ _)
            have H24 := Lib.hid (H2.out.kept hb4)
            have HB4 := Lib.hid (HB.out.trans (hb4.mono hsr))
            have hs4 : W4.heap.size = w3.heap.size + 1 := by rw [hW4]; simp
            have hbx : W0.heap.size ≤ w3.heap.size := by omega
            clear hW4 hb4 hb3 hs3 hbow hbo y0 y1 HEc2
            generalize w3.heap.size = bx at *
            have HRF := Lib.hid (fr16 HX4.out HFl16.out)
            go_wp2_with (at_builtin; refine wpList_two 52 elemU8 rfl (.tmp 80) (.tmp 81) rfl W0.heap.size _ _ _ _ F rfl H24.out bx 16 16 (bx + 1) rfl HRF.out HFl16.out (by decide) ?h63 ?hbase ?_)
            case h63 => omega
            case hbase => have := HB4.out.size; omega
            intro g1 cap1 W5 h25 hb5 hk5
            have H25 := Lib.hid h25
            have HX5 := Lib.hid (hk5 _ _ _ (by decide) HX4.out)
            have HB5 := Lib.hid (HB4.out.trans hb5)
            have hs5 := hb5.size
            clear h25 hb5 hk5 HX4 H24 HB4 H2 HB HRF
            have hGl : ((badF l q j xx)[k]).length = 16 := HFb.out.len _ (List.getElem_mem hbk)
            generalize (badF l q j xx)[k] = G at *
            by_cases hkq : k = q
            · skip
              as_aux_lemma =>
                have hxx := HxF.out hkq.symm
                have hGG := Hgb.out
                rw [if_pos hkq.symm] at hGG
                subst hkq
                have hjF : j < F.length := by rw [HFl16.out]; exact hj16
                have hFb := HFb2.out F[j] (List.getElem_mem hjF)
                rw [List.getElem?_eq_getElem hjF, Option.getD_some] at hxx
                have hcx : (frC F)[j]? = some (.int .u8 F[j]) := by unfold frC; simp [hjF]
                have hxo : bits .xor .u8 F[j] (1 + (ux : Int)) = xx := by
                  obtain ⟨f, hf⟩ := Int.eq_ofNat_of_zero_le hFb.1
                  rw [hxx, hf]
                  have := bo_xor8 (x := f) (y := 1 + ux) (by omega) (by omega)
                  unfold xorB
                  rw [HX2.out]
                  simpa using this
                have hGF : frC G = (frC F).setIfInBounds j (.int .u8 xx) := by rw [hGG]; unfold frC; simp [List.map_set]
                generalize F[j] = xj at *
                have HGF := Lib.hid hGF
                have HCx := Lib.hid hcx
                have hw1 : IntKind.i64.wrap (u1 : Int) = (u1 : Int) := wrap_nat (by have := HW1.out; omega)
                have hw2 : IntKind.u8.wrap (1 + (ux : Int)) = 1 + (ux : Int) := by have := wrap_nat8 (n := 1 + ux) (by omega); simpa using this
                have hNk := Lib.hid (HN0.out.kept HB5.out)
                have cN := hNk.out.cell
                have lN := hNk.out.lt
                have hjI : (j : Int) < 16 := by omega
                have hneN : w.heap.size + 1 ≠ bx := by have := HN0.out.lt; omega
                clear hGG hxx hGF hcx
                go_upto_region 13 with fail
                go_cut [] (fun wx => Blk wx bx 66 (frC G) ∧ Ex [bx] W5 wx)
                case first =>
                  as_aux_lemma =>
                    go_wp2_with fail
                    have hjt := HJt.out
                    have hut := HUt.out
                    (refine wp_region_calm [bx] [0, 1, 2, 3, 4, 6, 7, 8, 9] 4 (by kernel_rfl) rfl (by kernel_rfl) (by kernel_rfl) (by kernel_rfl) ?_; simp only [pickB, List.filterMap_cons, List.filterMap_nil, List.getElem?_toArray, List.getElem?_cons_zero, List.getElem?_cons_succ]; (repeat (first | ((first | (with_reducible refine quietL_plain rfl (fun K hK => ?_)) | (with_reducible refine quietL_want (by with_unfolding_all rfl) (fun K hK => ?_))); (apply Exists.intro; refine ⟨fun wx hx => ?_, ?_⟩; (· (have hcx := ifs_ex hx); simp [go_sem, *, ↓IntWalk.iteOmega] <;> (first | rfl | exact ⟨rfl, rfl⟩ | fail)); (simp only [Act.put, List.setIfInBounds_toArray, List.set_cons_zero, List.set_cons_succ]; refine hK _ ?_; clear hK K))) | ((with_reducible refine quietL_skip (by with_unfolding_all rfl) ?_); simp only [Act.put, List.setIfInBounds_toArray, List.set_cons_zero, List.set_cons_succ]))); refine quietL_nil ?_)
                    clear hjt hut
                    refine anyB_one (i := 5) (by kernel_rfl) rfl rfl ?_
                    intro w6 hb6 K hK
                    have HX6 := Lib.hid (HX5.out.kept hb6)
                    have cx := (HX6.out.cell j).trans HCx.out
                    have lx := HX6.out.lt
                    go_wp2
                    have hx6 := Ex.of_below (X := [bx]) hb6
                    refine ⟨hx6, ?_⟩
                    clear cx lx
                    (refine anyB_quiet_at (by kernel_rfl) calm_panic xs_ 1 [10, 11] _ _ (by kernel_rfl) (by decide +kernel) ?_; simp only [pickB, List.filterMap_cons, List.filterMap_nil, List.getElem?_toArray, List.getElem?_cons_zero, List.getElem?_cons_succ]; (repeat (first | ((first | (with_reducible refine quietL_plain rfl (fun K hK => ?_)) | (with_reducible refine quietL_want (by with_unfolding_all rfl) (fun K hK => ?_))); (apply Exists.intro; refine ⟨fun wx hx => ?_, ?_⟩; (· (have hcx := ifs_ex hx); simp [go_sem, *, ↓IntWalk.iteOmega] <;> (first | rfl | exact ⟨rfl, rfl⟩ | fail)); (simp only [Act.put, List.setIfInBounds_toArray, List.set_cons_zero, List.set_cons_succ]; refine hK _ ?_; clear hK K))) | ((with_reducible refine quietL_skip (by with_unfolding_all rfl) ?_); simp only [Act.put, List.setIfInBounds_toArray, List.set_cons_zero, List.set_cons_succ]))); refine quietL_nil ?_)
                    refine anyB_one (i := 12) (by kernel_rfl) rfl rfl ?_
                    intro w7 hb7 K hK
                    have HX7 := Lib.hid (HX6.out.kept hb7)
                    have cx := (HX7.out.cell (j)).trans HCx.out
                    have fx := HX7.out.frozen
                    have lx := HX7.out.lt
                    have HX8 : Hid (Blk (w7.setCell ⟨bx, j, none⟩ (.int .u8 xx)) bx 66 (frC G)) := Lib.hid (by rw [HGF.out]; exact HX7.out.set_ (j) _)
                    have he7 : Ex [bx] W5 (w7.setCell ⟨bx, j, none⟩ (.int .u8 xx)) := Ex.set_in (by simp) (hx6.grown hb7) _
                    have HE7 := Lib.hid he7
                    go_wp2
                    refine ⟨HE7.out, ?_⟩
                    clear hb6 hb7 hx6 he7
                    refine anyB_end (by kernel_rfl) ?_
                    intro w9 hb9
                    simp only [Calm]
                    have HX9 := Lib.hid (HX8.out.kept hb9)
                    have HE9 := Lib.hid (HE7.out.grown hb9)
                    clear hb9
                    go_wp2_with fail
                    go_meet
                    case rel => exact ⟨HX9.out, HE9.out⟩
                as_aux_lemma =>
                  rename World => W6
                  obtain ⟨hX6, he6⟩ := hcut
                  have H26 := Lib.hid ((H25.out.exb he6 HX5.out (by decide)).swap)
                  have HB6 := Lib.hid (HB5.out.trans (he6.lows HB5.out.size (by simpa using hbx)))
                  have hs6 := he6.size
                  have HRG := Lib.hid (fr16 hX6 hGl)
                  clear hX6 he6 hxo hw1 hw2 cN lN
                  go_wp2_with (at_builtin; refine wpList_two 52 elemU8 rfl (.tmp 98) (.tmp 99) rfl W0.heap.size _ _ _ _ G rfl H26.out bx 16 16 (bx + 1) rfl HRG.out hGl (by decide) ?h63 ?hbase ?_)
                  case h63 => omega
                  case hbase => omega
                  intro g2 cap2 W7 h27 hb7 hk7
                  have H27 := Lib.hid h27.swap
                  have HB7 := Lib.hid (HB6.out.trans hb7)
                  clear h27 hb7 hk7
                  go_wp2
                  go_roundw
                  case rel => exact ⟨k + 1, _, _, by omega, by go_num, rfl, rfl, by rw [HTf.out, HTb.out]; exact H27.out, HB7.out⟩
                  case measure => simp [intOf]; omega
            · skip
              as_aux_lemma =>
                have hGG := Hgb.out
                rw [if_neg (fun e => hkq e.symm)] at hGG
                have hkqN : (k : Int) ≠ (q : Int) := by omega
                have hkqI : ((k : Int) == (q : Int)) = false := by simpa using hkqN
                have hkqJ : ¬ ((k : Int) = (q : Int)) := by omega
                have H26 := Lib.hid H25.out.swap
                have HRG := Lib.hid (fr16 (F := G) (by rw [hGG]; exact HX5.out) hGl)
                have HB6 := HB5
                clear hGG
                go_wp2_with (at_builtin; refine wpList_two 52 elemU8 rfl (.tmp 98) (.tmp 99) rfl W0.heap.size _ _ _ _ G rfl H26.out bx 16 16 (bx + 1) rfl HRG.out hGl (by decide) ?h63 ?hbase ?_)
                case h63 => omega
                case hbase => omega
                intro g2 cap2 W7 h27 hb7 hk7
                have H27 := Lib.hid h27.swap
                have HB7 := Lib.hid (HB6.out.trans hb7)
                clear h27 hb7 hk7
                go_wp2
                go_roundw
                case rel => exact ⟨k + 1, _, _, by omega, by go_num, rfl, rfl, by rw [HTf.out, HTb.out]; exact H27.out, HB7.out⟩
                case measure => simp [intOf]; omega
          · skip
            as_aux_lemma =>
              obtain rfl : k = n2 := by omega
              have h6 := H2.out
              rw [List.take_of_length_le (by rw [HFl.out]; exact Nat.le_refl _), List.take_of_length_le (by rw [HBl.out]; exact Nat.le_refl _)] at h6
              have H6 := Lib.hid h6
              clear h6
              go_wp2_with fail
              go_meet
              case rel => exact ⟨_, _, rfl, rfl, H6.out, HB.out⟩
      rename World => W1
      obtain ⟨v, u, rfl, rfl, h2, hb⟩ := hcut
      obtain ⟨Ac, cc, rfl, hcc, _, hrc⟩ := own_form h2.a
      obtain ⟨As, cs, rfl, hcs, _, hrs⟩ := own_form h2.b
      have HA := Lib.hid (HA0.out.kept hb)
      have HL := Lib.hid (HL0.out.trans (hb.mono HL0.out.size))
      have HRs := Lib.hid hrs
      have HRe := Lib.hid (Received_any W1.heap.size Ac _ cc (odsF l) W1 HFg.out (by rw [HFl.out]; omega) hrc (Nat.le_refl _) hcc)
      obtain ⟨f1, f2, f3⟩ := sent_all HSe.out
      obtain ⟨b1, b2, b3⟩ := sent_bad (q := q) (j := j) (x := xB l q j u2) HSe.out (by rw [HEn.out.2.2.2.2.2]; exact hqn) hj16 HxB.out HxN.out
      have hlm : l.length - 1 = m := by rw [HEn.out.2.2.2.2.2, HMm.out]; rfl
      rw [HEn.out.2.2.2.2.2] at f1
      rw [hlm] at b1
      have F1 := Lib.hid f1
      have F2 := Lib.hid f2
      have F3 := Lib.hid f3
      have B1 := Lib.hid b1
      have B2 := Lib.hid b2
      have B3 := Lib.hid b3
      have hmn : (n2 : Int) - 1 = (m : Int) := by have := HMm.out; omega
      have hm7 : m ≤ 7 := by have := HMm.out; omega
      have hqm : q ≤ m := by have := HMm.out; omega
      clear h2 hb hrc hrs f1 f2 f3 b1 b2 b3 hlm hcc HA0 HN0 HL0 hlw
      generalize (odsF l).flatten.length = nc at *
      generalize (badF l q j (xB l q j u2)).flatten.length = ns at *
      have cHA := HA.out.cell
      have lHA := HA.out.lt
      go_upto_region 17 with (go_at_call 22; refine HRe.out.mono ?_; rintro e W2 ⟨v1, v2, rfl, ho1, ho2, hb2⟩)
      rw [F1.out, F2.out] at ho1
      rw [F3.out] at ho2
      obtain ⟨At, ct, rfl, hct, _, hrt⟩ := own_form ho1
      obtain ⟨Ab, cb, rfl, _, _, _⟩ := own_form ho2
      have HT := Lib.hid hrt
      replace HA := Lib.hid (HA.out.kept hb2)
      replace HL := Lib.hid (HL.out.trans (hb2.mono HL.out.size))
      have hrs2 := (HRs.out.below hb2).more hb2.size
      have HRb := Lib.hid (Received_any W2.heap.size As _ cs (badF l q j (xB l q j u2)) W2 HFb.out (by rw [HBl.out]; omega) hrs2 (Nat.le_refl _) hcs)
      clear ho1 ho2 hrt hb2 hrs2 HRs HRe cHA lHA hcs F1 F2 F3
      have cHA := HA.out.cell
      have lHA := HA.out.lt
      go_upto_region 18 with (go_at_call 22; refine HRb.out.mono ?_; rintro e W3 ⟨v3, v4, rfl, ho3, ho4, hb3⟩)
      rw [B1.out, B2.out] at ho3
      rw [B3.out] at ho4
      obtain ⟨Au, cu, rfl, hcu, _, hru⟩ := own_form ho3
      obtain ⟨Ax, cx, rfl, hcx, _, hrx⟩ := own_form ho4
      have HU := Lib.hid hru
      have HX := Lib.hid hrx
      replace HA := Lib.hid (HA.out.kept hb3)
      replace HL := Lib.hid (HL.out.trans (hb3.mono HL.out.size))
      replace HT := Lib.hid ((HT.out.below hb3).more hb3.size)
      clear ho3 ho4 hru hrx hb3 HRb cHA lHA B1 B2 B3
      have cHA := HA.out.cell
      have lHA := HA.out.lt
      have hnn : (n2 != n2) = false := by simp
      have hmm : (m != m) = false := by simp
      have hmM : ((m : Int) != (m : Int)) = false := by simp
      generalize xB l q j u2 = xx at *
      go_wp2_with fail
      refine (SameInts_any W3.heap.size (W3.heap.size + 1) Ax (some ⟨W3.heap.size, 0, none⟩) 1 1 cx 1 [(q : Int)] [(q : Int)] _ (HX.out.alloc (Nat.le_refl _) _) (by simpa using Reads.new (size := 1) W3 (([(q : Int)]).map (Value.int .i64)).toArray 3 1 rfl) (by simp) (by simp) (by unfold maxLen; omega) (by unfold maxLen; omega)).mono ?_
      rw [sameI_self]
      rintro e W4 ⟨rfl, hb4⟩
      have hb4' := ((Below.refl W3.heap.size W3).alloc (Nat.le_refl _) (.cells #[.int .i64 (q : Int)] 3)).trans (hb4.mono (by simp))
      replace HA := Lib.hid (HA.out.kept hb4')
      replace HL := Lib.hid (HL.out.trans (hb4'.mono HL.out.size))
      replace HT := Lib.hid ((HT.out.below hb4').more hb4'.size)
      replace HU := Lib.hid ((HU.out.below hb4').more hb4'.size)
      clear hb4 hb4' HX cHA lHA hcx
      have cHA := HA.out.cell
      have lHA := HA.out.lt
      have HCt := Lib.hid (erase_ct q (l := l) (by rw [HEn.out.2.2.2.2.2]; exact h28))
      have HGe := Lib.hid (erase_good HSe.out q)
      have HLc : Hid (lostL (((odsT l).eraseIdx q).map Tl.c) = if 0 < q ∧ q + 1 < n2 then [100 + (q : Int)] else []) := Lib.hid (by rw [erase_c, HEn.out.2.2.2.2.2]; exact range_lost n2 h28 q hqn)
      have HTU : Hid (((odsT l).eraseIdx q).map tlO = l.eraseIdx q) := Lib.hid (erase_o l q)
      have HTA : Hid ((odsT l).map tlO = l) := Lib.hid (odsT_back l)
      generalize (odsT l).eraseIdx q = Tu at *
      generalize odsT l = Ta at *
      go_upto_region 20 with fail
      have HUr := Lib.hid (HU.out.alloc (Nat.le_refl _) (.cells #[] 71))
      go_wp2_with (at_builtin; refine wpList_plain rfl fun K hK => ?_; refine wp_spread 72 71 6 48 elemTel (.tmp 148) (.tmp 149) rfl W4.heap.size W4.heap.size rfl (Own.new W4 W4.heap.size 71 6 0 #[] (Nat.le_refl _) rfl (by unfold maxLen; decide)) Au m cu W4.heap.size (tls Tu) rfl HUr.out (fun v hv => by obtain ⟨t, _, ht⟩ := List.mem_flatMap.1 hv; simp [Tl.cells, telC] at ht; rcases ht with rfl | rfl | rfl | rfl | rfl | rfl <;> rfl) (by unfold maxLen; omega) (by omega) (by simp) ?_)
      intro v' W5 hown hg hne
      have hb5 : Below W4.heap.size W4 W5 := (((Below.refl W4.heap.size W4).alloc (Nat.le_refl _) (.cells #[] 71)).grown hg (by simp) (fun k e => by cases e; exact Nat.le_refl _))
      obtain ⟨A5, c5, rfl, hc5, _, hrd5⟩ := own_form hown
      replace HA := Lib.hid (HA.out.kept hb5)
      replace HL := Lib.hid (HL.out.trans (hb5.mono HL.out.size))
      replace HT := Lib.hid ((HT.out.below hb5).more hb5.size)
      replace HU := Lib.hid ((HU.out.below hb5).more hb5.size)
      have HR5 := Lib.hid hrd5
      clear hown hg hne hb5 hrd5 HUr cHA lHA
      have cHA := HA.out.cell
      have lHA := HA.out.lt
      refine hK _ _ ?_
      clear hK K
      go_wp2_with fail
      refine (Lost_any W5.heap.size A5 m c5 Tu W5 (fun t ht => (HGe.out t ht).1) (fun t ht => (HGe.out t ht).2) HCt.out HR5.out (Nat.le_refl _) (by omega)).mono ?_
      rintro e W6 ⟨vl, rfl, hol, hb6⟩
      rw [HLc.out] at hol
      replace HA := Lib.hid (HA.out.kept hb6)
      replace HL := Lib.hid (HL.out.trans (hb6.mono HL.out.size))
      replace HT := Lib.hid ((HT.out.below hb6).more hb6.size)
      replace HU := Lib.hid ((HU.out.below hb6).more hb6.size)
      have HOl := Lib.hid hol
      clear hol hb6 HR5 cHA lHA HLc HCt
      have cHA := HA.out.cell
      have lHA := HA.out.lt
      go_upto_region 21 with fail
      go_cut [190] (fun s190 wx => s190 = .bool false ∧ Below W6.heap.size W6 wx)
      case first =>
        as_aux_lemma =>
          have hho := HOl.out
          by_cases hi : 0 < q ∧ q + 1 < n2
          · skip
            rw [if_pos hi] at hho
            obtain ⟨Al, cl, rfl, _, _, hrl⟩ := own_form hho
            have HRl : Hid (Reads W6 W6.heap.size 1 Al 1 ([100 + (q : Int)].map (.int .i64))) := Lib.hid hrl
            have i1 : (0 : Int) < (q : Int) := by omega
            have i2 : (q : Int) < (m : Int) := by omega
            have i3 : ((q : Int) == 0) = false := by simp; omega
            have i4 : ((q : Int) == (m : Int)) = false := by simp; omega
            have i5 : ¬ ((q : Int) = 0) := by omega
            have i6 : ¬ ((q : Int) = (m : Int)) := by omega
            clear hho hrl
            go_wp2_with fail
            refine (SameInts_any W6.heap.size (W6.heap.size + 1) Al (some ⟨W6.heap.size, 0, none⟩) 1 1 cl 1 [100 + (q : Int)] [100 + (q : Int)] _ (HRl.out.alloc (Nat.le_refl _) _) (by simpa using Reads.new (size := 1) W6 (([100 + (q : Int)]).map (Value.int .i64)).toArray 3 1 rfl) (by simp) (by simp) (by unfold maxLen; omega) (by unfold maxLen; omega)).mono ?_
            rw [sameI_self]
            rintro e W7 ⟨rfl, hb7⟩
            have hb7' := ((Below.refl W6.heap.size W6).alloc (Nat.le_refl _) (.cells #[.int .i64 (100 + (q : Int))] 3)).trans (hb7.mono (by simp))
            have HB7 := Lib.hid hb7'
            clear hb7 hb7'
            go_wp2_with fail
            go_meet
            case rel => exact ⟨rfl, HB7.out⟩
          · rw [if_neg hi] at hho
            obtain ⟨Al, cl, rfl, _, _, _⟩ := own_form hho
            clear hho
            by_cases h0q : q = 0
            · skip
              subst h0q
              go_wp2_with fail
              go_meet
              case rel => exact ⟨rfl, Below.refl _ _⟩
            · skip
              have hqe : q = m := by have := HMm.out; omega
              subst hqe
              have i1 : (0 : Int) < (q : Int) := by omega
              have i3 : ((q : Int) == 0) = false := by simp; omega
              have i5 : ¬ ((q : Int) = 0) := by omega
              go_wp2_with fail
              go_meet
              case rel => exact ⟨rfl, Below.refl _ _⟩
      as_aux_lemma =>
        rename World => W7
        obtain ⟨rfl, hb⟩ := hcut
        replace HA := Lib.hid (HA.out.kept hb)
        replace HL := Lib.hid (HL.out.trans (hb.mono HL.out.size))
        replace HT := Lib.hid ((HT.out.below hb).more hb.size)
        replace HU := Lib.hid ((HU.out.below hb).more hb.size)
        clear hb HOl cHA lHA
        have cHA := HA.out.cell
        have lHA := HA.out.lt
        go_upto_block 2 with fail
        go_cut [22] (fun s22 wx => ∃ v, s22 = v ∧ wx.ownsRow W7.heap.size 45 2 v n2 (ods l) ∧ Below W7.heap.size W7 wx)
        case first =>
          as_aux_lemma =>
            have hTl := (tl_at HT.out).1
            have hTat := (tl_at HT.out).2
            have HAt := Lib.hid hTat
            have HTl := Lib.hid hTl
            clear hTat hTl
            go_wp2_with fail
            go_loopw [22, 193] (fun s22 s193 wr => ∃ (k : Nat) (v : Value), k ≤ n2 ∧ s193 = .int .i64 (k : Int) ∧ s22 = v ∧ wr.ownsRow W7.heap.size 45 2 v k (ods ((Ta.map tlO).take k)) ∧ Below W7.heap.size W7 wr) (fun _ s193 _ => n2 - (intOf s193).toNat)
            case atStart => exact ⟨0, _, by omega, rfl, rfl, World.ownsRow_nil _ _ _ _, Below.refl _ _⟩
            case round =>
              obtain ⟨k, v, hk, rfl, rfl, ho, hb⟩ := hrel
              have HO := Lib.hid ho
              have HB := Lib.hid hb
              have hsr := hb.size
              clear ho hb
              by_cases hlt : k < n2
              · have hkl : k < Ta.length := by rw [HTl.out]; exact hlt
                have hkI : (k : Int) < (n2 : Int) := by omega
                obtain ⟨b, o, eA, hbb, z0, z1, z2, z3, z4, z5⟩ := HAt.out k hkl
                have kb : ∀ i, wr.cell? ⟨b, i, none⟩ = W7.cell? ⟨b, i, none⟩ := fun i => HB.out.cell (p := ⟨b, i, none⟩) (by simp; omega)
                rw [← kb] at z0 z1 z2 z3 z4 z5
                clear kb
                have hbw : b < wr.heap.size := by omega
                have HSn := Lib.hid (ods_snoc Ta hkl)
                generalize Ta[k] = x at *
                obtain ⟨xs, xc, xv⟩ := x
                dsimp only at z0 z1 z2 z3 z4 z5 HSn
                generalize xv 0 = y0 at *
                generalize xv 1 = y1 at *
                generalize xv 2 = y2 at *
                generalize xv 3 = y3 at *
                subst eA
                have hb1 : Below wr.heap.size wr (wr.alloc (.cells #[.int .i64 xs, .int .i64 xc, .int .i64 y0, .int .i64 y1, .int .i64 y2, .int .i64 y3] 71)) := bl_
                have HO2 := Lib.hid (own_kept HO.out hb1)
                have HB2 := Lib.hid (HB.out.trans (hb1.mono hsr))
                clear hb1
                go_wp2_with (at_builtin; refine wpList_app 38 45 2 16 elemOd rfl (.tmp 197) (.tmp 205) rfl W7.heap.size _ k _ rfl HO2.out 1 (by show Value.slice (some ⟨wr.heap.size + 1, 0, none⟩) 1 1 = _; simp) rfl (by intro u hu; simp at hu; rcases hu with rfl | rfl <;> rfl) (by decide) ?h3 ?h4 ?h5 ?_)
                case h3 => unfold maxLen; omega
                case h4 => omega
                case h5 => simp; omega
                intro g' cap' w' hown' hb' hk' hs'
                have HO3 := Lib.hid hown'
                have HB3 := Lib.hid (HB2.out.trans hb')
                clear hown' hb' hk'
                go_wp2
                go_roundw
                case rel => exact ⟨k + 1, _, by omega, by go_num, rfl, by rw [HSn.out]; exact HO3.out, HB3.out⟩
                case measure => simp [intOf]; omega
              · obtain rfl : k = n2 := by omega
                have h6 := HO.out
                rw [List.take_of_length_le (by rw [List.length_map, HTl.out]; exact Nat.le_refl _), HTA.out] at h6
                have H6 := Lib.hid h6
                clear h6
                go_wp2_with fail
                go_meet
                case rel => exact ⟨_, rfl, H6.out, HB.out⟩
        rename World => W8
        obtain ⟨va, rfl, hoa, hb⟩ := hcut
        obtain ⟨Aa, ca, rfl, hca, _, hra⟩ := own_form hoa
        have HOa := Lib.hid hra
        replace HA := Lib.hid (HA.out.kept hb)
        replace HL := Lib.hid (HL.out.trans (hb.mono HL.out.size))
        replace HU := Lib.hid ((HU.out.below hb).more hb.size)
        clear hb hoa hra HT cHA lHA
        have cHA := HA.out.cell
        have lHA := HA.out.lt
        go_upto_block 4 with fail
        go_cut [23] (fun s23 wx => ∃ v, s23 = v ∧ wx.ownsRow W8.heap.size 45 2 v m (ods (l.eraseIdx q)) ∧ Below W8.heap.size W8 wx)
        case first =>
          as_aux_lemma =>
            have hTl := (tl_at HU.out).1
            have hTat := (tl_at HU.out).2
            have HAt := Lib.hid hTat
            have HTl := Lib.hid hTl
            clear hTat hTl
            go_wp2_with fail
            go_loopw [23, 210] (fun s23 s210 wr => ∃ (k : Nat) (v : Value), k ≤ m ∧ s210 = .int .i64 (k : Int) ∧ s23 = v ∧ wr.ownsRow W8.heap.size 45 2 v k (ods ((Tu.map tlO).take k)) ∧ Below W8.heap.size W8 wr) (fun _ s210 _ => m - (intOf s210).toNat)
            case atStart => exact ⟨0, _, by omega, rfl, rfl, World.ownsRow_nil _ _ _ _, Below.refl _ _⟩
            case round =>
              obtain ⟨k, v, hk, rfl, rfl, ho, hb⟩ := hrel
              have HO := Lib.hid ho
              have HB := Lib.hid hb
              have hsr := hb.size
              clear ho hb
              by_cases hlt : k < m
              · have hkl : k < Tu.length := by rw [HTl.out]; exact hlt
                have hkI : (k : Int) < (m : Int) := by omega
                obtain ⟨b, o, eA, hbb, z0, z1, z2, z3, z4, z5⟩ := HAt.out k hkl
                have kb : ∀ i, wr.cell? ⟨b, i, none⟩ = W8.cell? ⟨b, i, none⟩ := fun i => HB.out.cell (p := ⟨b, i, none⟩) (by simp; omega)
                rw [← kb] at z0 z1 z2 z3 z4 z5
                clear kb
                have hbw : b < wr.heap.size := by omega
                have HSn := Lib.hid (ods_snoc Tu hkl)
                generalize Tu[k] = x at *
                obtain ⟨xs, xc, xv⟩ := x
                dsimp only at z0 z1 z2 z3 z4 z5 HSn
                generalize xv 0 = y0 at *
                generalize xv 1 = y1 at *
                generalize xv 2 = y2 at *
                generalize xv 3 = y3 at *
                subst eA
                have hb1 : Below wr.heap.size wr (wr.alloc (.cells #[.int .i64 xs, .int .i64 xc, .int .i64 y0, .int .i64 y1, .int .i64 y2, .int .i64 y3] 71)) := bl_
                have HO2 := Lib.hid (own_kept HO.out hb1)
                have HB2 := Lib.hid (HB.out.trans (hb1.mono hsr))
                clear hb1
                go_wp2_with (at_builtin; refine wpList_app 38 45 2 16 elemOd rfl (.tmp 214) (.tmp 222) rfl W8.heap.size _ k _ rfl HO2.out 1 (by show Value.slice (some ⟨wr.heap.size + 1, 0, none⟩) 1 1 = _; simp) rfl (by intro u hu; simp at hu; rcases hu with rfl | rfl <;> rfl) (by decide) ?h3 ?h4 ?h5 ?_)
                case h3 => unfold maxLen; omega
                case h4 => omega
                case h5 => simp; omega
                intro g' cap' w' hown' hb' hk' hs'
                have HO3 := Lib.hid hown'
                have HB3 := Lib.hid (HB2.out.trans hb')
                clear hown' hb' hk'
                go_wp2
                go_roundw
                case rel => exact ⟨k + 1, _, by omega, by go_num, rfl, by rw [HSn.out]; exact HO3.out, HB3.out⟩
                case measure => simp [intOf]; omega
              · obtain rfl : k = m := by omega
                have h6 := HO.out
                rw [List.take_of_length_le (by rw [List.length_map, HTl.out]; exact Nat.le_refl _), HTU.out] at h6
                have H6 := Lib.hid h6
                clear h6
                go_wp2_with fail
                go_meet
                case rel => exact ⟨_, rfl, H6.out, HB.out⟩
        rename World => W9
        obtain ⟨vs, rfl, hos, hb⟩ := hcut
        obtain ⟨Ao, co, rfl, hco, _, hro⟩ := own_form hos
        have HOe := Lib.hid hro
        replace HA := Lib.hid (HA.out.kept hb)
        replace HL := Lib.hid (HL.out.trans (hb.mono HL.out.size))
        replace HOa := Lib.hid (ods_kept HOa.out hb)
        clear hb hos hro HU cHA lHA HTU HTA HGe
        have cHA := HA.out.cell
        have lHA := HA.out.lt
        have HRu := Lib.hid (fun W A A3 c c3 (hm : MsAt W W.heap.size A n a.m) (hc : n ≤ c) (hr : Reads W W.heap.size 2 A3 n2 (ods l)) => (Run_any W.heap.size W.heap.size A A3 n c n2 c3 a l W hm (Nat.le_refl _) HEn.out.2.2.1 hc hr (Nat.le_refl _) hq2).mono (fun e w' h => run_uni HEn.out.2.2.2.2.1 HEn.out.1 HEn.out.2.1 HEn.out.2.2.2.1 h))
        unfold ArU at HRu
        obtain ⟨r, hr⟩ : ∃ r, (runGo 0 a l).1 = r := ⟨_, rfl⟩
        obtain ⟨rk, hrk⟩ : ∃ rk, (runGo 0 a l).2.1 = rk := ⟨_, rfl⟩
        obtain ⟨re, hre⟩ : ∃ re, (runGo 0 a l).2.2 = re := ⟨_, rfl⟩
        rw [hr, hrk, hre] at HRu
        have hrl : r.m.length ≤ 1000 := by
          rw [← hr]
          have := run_len (a := a) (l := l) HEn.out.1 HEn.out.2.1
          have h2 := HEn.out.2.2.2.2.1
          omega
        clear hr hrk hre
        go_upto_region 34 with fail
        go_wp2_with fail
        refine (HOw.out _ HL.out).mono ?_
        rintro e W10 ⟨Aq, cq, rfl, hm, hc, hb⟩
        have HM := Lib.hid hm
        have HC := Lib.hid hc
        replace HA := Lib.hid (HA.out.kept hb)
        replace HL := Lib.hid (HL.out.trans (hb.mono HL.out.size))
        replace HOa := Lib.hid (ods_kept HOa.out hb)
        replace HOe := Lib.hid (ods_kept HOe.out hb)
        clear hm hc hb cHA lHA
        have cHA := HA.out.cell
        have lHA := HA.out.lt
        go_wp2_with fail
        refine (HRu.out _ _ _ _ _ HM.out HC.out HOa.out).mono ?_
        rintro e W11 ⟨Ar1, cr1, rfl, hm, hb⟩
        replace HA := Lib.hid (HA.out.kept hb)
        replace HL := Lib.hid (HL.out.trans (hb.mono HL.out.size))
        replace HOe := Lib.hid (ods_kept HOe.out hb)
        have HM1 := Lib.hid hm
        clear hm hb HM HC HOa cHA lHA
        have cHA := HA.out.cell
        have lHA := HA.out.lt
        go_upto_region 35 with fail
        refine wp_world ?_
        intro W12 hW12
        have hb : Below W11.heap.size W11 W12 := by rw [hW12]; exact (Below.refl _ _).alloc (Nat.le_refl _) _
        have HP1 := Lib.hid (show Blk W12 W11.heap.size 36 #[.slice Ar1 r.m.length cr1, .int .i64 r.lo, .int .i64 r.hi, .int .i64 r.cur, .int .i64 r.lim] from by rw [hW12]; exact Blk.new _ _ _)
        replace HA := Lib.hid (HA.out.kept hb)
        replace HL := Lib.hid (HL.out.trans (hb.mono HL.out.size))
        replace HOe := Lib.hid (ods_kept HOe.out hb)
        replace HM1 := Lib.hid (ms_kept HM1.out hb)
        clear hW12 hb cHA lHA
        generalize W11.heap.size = p1 at *
        have cHA := HA.out.cell
        have lHA := HA.out.lt
        go_wp2_with fail
        refine (HOw.out _ HL.out).mono ?_
        rintro e W13 ⟨Aq, cq, rfl, hm, hc, hb⟩
        have HM := Lib.hid hm
        have HC := Lib.hid hc
        replace HA := Lib.hid (HA.out.kept hb)
        replace HL := Lib.hid (HL.out.trans (hb.mono HL.out.size))
        replace HOe := Lib.hid (ods_kept HOe.out hb)
        replace HM1 := Lib.hid (ms_kept HM1.out hb)
        replace HP1 := Lib.hid (HP1.out.kept hb)
        clear hm hc hb cHA lHA
        have cHA := HA.out.cell
        have lHA := HA.out.lt
        go_wp2_with fail
        refine (HOd.out _ HL.out).mono ?_
        rintro e W14 ⟨Ad, cd, rfl, hrd, _, hb⟩
        have HOb := Lib.hid hrd
        replace HA := Lib.hid (HA.out.kept hb)
        replace HL := Lib.hid (HL.out.trans (hb.mono HL.out.size))
        replace HOe := Lib.hid (ods_kept HOe.out hb)
        replace HM1 := Lib.hid (ms_kept HM1.out hb)
        replace HM := Lib.hid (ms_kept HM.out hb)
        replace HP1 := Lib.hid (HP1.out.kept hb)
        clear hrd hb cHA lHA
        have cHA := HA.out.cell
        have lHA := HA.out.lt
        go_wp2_with fail
        refine (HRu.out _ _ _ _ _ HM.out HC.out HOb.out).mono ?_
        rintro e W15 ⟨Ar2, cr2, rfl, hm, hb⟩
        replace HA := Lib.hid (HA.out.kept hb)
        replace HL := Lib.hid (HL.out.trans (hb.mono HL.out.size))
        replace HOe := Lib.hid (ods_kept HOe.out hb)
        replace HM1 := Lib.hid (ms_kept HM1.out hb)
        replace HP1 := Lib.hid (HP1.out.kept hb)
        have HM2 := Lib.hid hm
        clear hm hb HM HC HOb cHA lHA
        have cHA := HA.out.cell
        have lHA := HA.out.lt
        go_upto_region 36 with fail
        refine wp_world ?_
        intro W16 hW16
        have hb : Below W15.heap.size W15 W16 := by rw [hW16]; exact (Below.refl _ _).alloc (Nat.le_refl _) _
        have HP2 := Lib.hid (show Blk W16 W15.heap.size 36 #[.slice Ar2 r.m.length cr2, .int .i64 r.lo, .int .i64 r.hi, .int .i64 r.cur, .int .i64 r.lim] from by rw [hW16]; exact Blk.new _ _ _)
        replace HA := Lib.hid (HA.out.kept hb)
        replace HL := Lib.hid (HL.out.trans (hb.mono HL.out.size))
        replace HOe := Lib.hid (ods_kept HOe.out hb)
        replace HM1 := Lib.hid (ms_kept HM1.out hb)
        replace HM2 := Lib.hid (ms_kept HM2.out hb)
        replace HP1 := Lib.hid (HP1.out.kept hb)
        clear hW16 hb cHA lHA HRu
        generalize W15.heap.size = p2 at *
        have cP1 := HP1.out.cell
        have lP1 := HP1.out.lt
        have cP2 := HP2.out.cell
        have lP2 := HP2.out.lt
        have hrk0 : ((rk : Int) != (rk : Int)) = false := by simp
        have hre0 : (re != re) = false := by simp
        go_cut [257] (fun s257 wx => s257 = .bool false ∧ Below W16.heap.size W16 wx)
        case first =>
          as_aux_lemma =>
            have HTo := Lib.hid (fun W A c (hm : MsAt W W.heap.size A r.m.length r.m) => told_r (W := W) (A := A) (c := c) (r := r) hm hrl)
            have HSa := Lib.hid (fun W A1 A2 c1 c2 (h1 : MsAt W W.heap.size A1 r.m.length r.m) (h2 : MsAt W W.heap.size A2 r.m.length r.m) => Same_self W.heap.size W.heap.size A1 A2 r.m.length c1 c2 r W h1 h2 (Nat.le_refl _) (Nat.le_refl _) hrl)
            have hst : (true == true) = true := rfl
            go_wp2_with fail
            (refine wp_region_calm [] [0, 1, 2, 3, 4, 5, 6, 7, 8, 9, 11] 5 (by kernel_rfl) rfl (by kernel_rfl) (by kernel_rfl) (by kernel_rfl) ?_; simp only [pickB, List.filterMap_cons, List.filterMap_nil, List.getElem?_toArray, List.getElem?_cons_zero, List.getElem?_cons_succ]; (repeat (first | ((first | (with_reducible refine quietL_plain rfl (fun K hK => ?_)) | (with_reducible refine quietL_want (by with_unfolding_all rfl) (fun K hK => ?_))); (apply Exists.intro; refine ⟨fun wx hx => ?_, ?_⟩; (· (have hcx := ifs_ex hx); simp [go_sem, *, ↓IntWalk.iteOmega] <;> (first | rfl | exact ⟨rfl, rfl⟩ | fail)); (simp only [Act.put, List.setIfInBounds_toArray, List.set_cons_zero, List.set_cons_succ]; refine hK _ ?_; clear hK K))) | ((with_reducible refine quietL_skip (by with_unfolding_all rfl) ?_); simp only [Act.put, List.setIfInBounds_toArray, List.set_cons_zero, List.set_cons_succ]))); refine quietL_nil ?_)
            (refine anyB_one_want (i := 10) (by kernel_rfl) rfl (by kernel_rfl) ?_; intro w20 hb20 K hK; have hs20 := hb20.size; (try simp at hs20); go_wp2_with fail)
            refine (HTo.out _ _ _ (ms_kept HM1.out hb20)).mono ?_
            rintro e w21 ⟨A21, c21, rfl, hm21, hb21⟩
            have hs21 := hb21.size
            have HM21 := Lib.hid hm21
            clear hm21
            (go_wp2; refine ⟨xs_, ?_⟩)
            (refine anyB_one_want (i := 12) (by kernel_rfl) rfl (by kernel_rfl) ?_; intro w22 hb22 K hK; have hs22 := hb22.size; (try simp at hs22); go_wp2_with fail)
            refine (HTo.out _ _ _ (ms_kept (ms_kept (ms_kept HM2.out hb20) hb21) hb22)).mono ?_
            rintro e w23 ⟨A23, c23, rfl, hm23, hb23⟩
            have hs23 := hb23.size
            have HM23 := Lib.hid hm23
            clear hm23
            (go_wp2; refine ⟨xs_, ?_⟩)
            (refine anyB_one_want (i := 13) (by kernel_rfl) rfl (by kernel_rfl) ?_; intro w24 hb24 K hK; have hs24 := hb24.size; (try simp at hs24); go_wp2_with fail)
            refine (HSa.out _ _ _ _ _ (ms_kept (ms_kept (ms_kept HM21.out hb22) hb23) hb24) (ms_kept HM23.out hb24)).mono ?_
            rintro e w25 ⟨rfl, hb25⟩
            have hs25 := hb25.size
            (go_wp2; refine ⟨xs_, ?_⟩)
            (refine anyB_quiet_at (by kernel_rfl) calm_panic xs_ 0 [14, 15] _ _ (by kernel_rfl) (by decide +kernel) ?_; simp only [pickB, List.filterMap_cons, List.filterMap_nil, List.getElem?_toArray, List.getElem?_cons_zero, List.getElem?_cons_succ]; (repeat (first | ((first | (with_reducible refine quietL_plain rfl (fun K hK => ?_)) | (with_reducible refine quietL_want (by with_unfolding_all rfl) (fun K hK => ?_))); (apply Exists.intro; refine ⟨fun wx hx => ?_, ?_⟩; (· (have hcx := ifs_ex hx); simp [go_sem, *, ↓IntWalk.iteOmega] <;> (first | rfl | exact ⟨rfl, rfl⟩ | fail)); (simp only [Act.put, List.setIfInBounds_toArray, List.set_cons_zero, List.set_cons_succ]; refine hK _ ?_; clear hK K))) | ((with_reducible refine quietL_skip (by with_unfolding_all rfl) ?_); simp only [Act.put, List.setIfInBounds_toArray, List.set_cons_zero, List.set_cons_succ]))); refine quietL_nil ?_)
            (refine anyB_end (by kernel_rfl) ?_; intro w26 hb26; have hs26 := hb26.size; (try simp at hs26); simp only [Calm])
            have hB := hb20.trans ((hb21.trans ((hb22.trans ((hb23.trans ((hb24.trans ((hb25.trans (hb26.mono hs25)).mono hb24.size)).mono hs23)).mono hb22.size)).mono hs21)).mono hb20.size)
            have HB := Lib.hid hB
            clear hB hb20 hb21 hb22 hb23 hb24 hb25 hb26
            go_wp2_with fail
            go_meet
            case rel => exact ⟨rfl, HB.out⟩
        rename World => W17
        obtain ⟨rfl, hb⟩ := hcut
        replace HA := Lib.hid (HA.out.kept hb)
        replace HL := Lib.hid (HL.out.trans (hb.mono HL.out.size))
        replace HOe := Lib.hid (ods_kept HOe.out hb)
        clear hb cP1 lP1 cP2 lP2 HM1 HM2 HP1 HP2
        have HLe := Lib.hid (fun W A A3 c c3 (hm : MsAt W W.heap.size A n a.m) (hc : n ≤ c) (hr : Reads W W.heap.size 2 A3 m (ods (l.eraseIdx q))) => (Log_any W.heap.size W.heap.size A A3 n c m c3 a (l.eraseIdx q) W hm (Nat.le_refl _) HEn.out.2.2.1 hc hr (Nat.le_refl _) (by omega)).mono (fun e w' h => log_uni h))
        have HLk := Lib.hid (fun W A A3 c c3 (hm : MsAt W W.heap.size A n a.m) (hc : n ≤ c) (hr : Reads W W.heap.size 2 A3 q (ods (l.take q))) => (Log_any W.heap.size W.heap.size A A3 n c q c3 a (l.take q) W hm (Nat.le_refl _) HEn.out.2.2.1 hc hr (Nat.le_refl _) (by omega)).mono (fun e w' h => log_uni h))
        have hoe : ∀ o ∈ l.eraseIdx q, orderE o = 0 := fun o h => HEn.out.2.1 o (List.mem_of_mem_eraseIdx h)
        have hok : ∀ o ∈ l.take q, orderE o = 0 := fun o h => HEn.out.2.1 o (List.mem_of_mem_take h)
        have hll := HEn.out.2.2.2.2.2
        have hOe : ordsE a (l.eraseIdx q) = 0 := ords_all HEn.out.1 (by rw [List.length_eraseIdx]; split <;> omega) hoe
        have hOk : ordsE a (l.take q) = 0 := ords_all HEn.out.1 (by rw [List.length_take]; omega) hok
        have HOOe := Lib.hid hOe
        have HOOk := Lib.hid hOk
        have Hoe := Lib.hid hoe
        have Hok := Lib.hid hok
        clear hoe hok hOe hOk hll
        obtain ⟨e7, he7⟩ : ∃ e7, wrkE a (l.eraseIdx q) = e7 := ⟨_, rfl⟩
        obtain ⟨e8, he8⟩ : ∃ e8, wrkE a (l.take q) = e8 := ⟨_, rfl⟩
        obtain ⟨ge, hge⟩ : ∃ ge, logV a (l.eraseIdx q) = ge := ⟨_, rfl⟩
        obtain ⟨gk, hgk⟩ : ∃ gk, logV a (l.take q) = gk := ⟨_, rfl⟩
        rw [he7, hge] at HLe
        rw [he8, hgk] at HLk
        have He7 := Lib.hid he7
        have He8 := Lib.hid he8
        have Hge := Lib.hid hge
        have Hgk := Lib.hid hgk
        clear he7 he8 hge hgk
        have cHA := HA.out.cell
        have lHA := HA.out.lt
        go_upto_region 38 with fail
        go_wp2_with fail
        refine (HOw.out _ HL.out).mono ?_
        rintro e W18 ⟨Aq, cq, rfl, hm, hc, hb⟩
        have HM := Lib.hid hm
        have HC := Lib.hid hc
        replace HA := Lib.hid (HA.out.kept hb)
        replace HL := Lib.hid (HL.out.trans (hb.mono HL.out.size))
        replace HOe := Lib.hid (ods_kept HOe.out hb)
        clear hm hc hb cHA lHA
        have HOr := Lib.hid (HOe.out.alloc (Nat.le_refl _) (.cells #[] 45))
        go_wp2_with (at_builtin; refine wpList_plain rfl fun K hK => ?_; refine wp_spread 38 45 2 16 elemOd (.tmp 261) (.tmp 262) rfl W18.heap.size W18.heap.size rfl (Own.new W18 W18.heap.size 45 2 0 #[] (Nat.le_refl _) rfl (by unfold maxLen; decide)) Ao m co W18.heap.size (ods (l.eraseIdx q)) rfl HOr.out (fun v hv => by obtain ⟨t, _, ht⟩ := List.mem_flatMap.1 hv; simp [Od.cells] at ht; rcases ht with rfl | rfl <;> rfl) (by unfold maxLen; omega) (by omega) (by simp) ?_)
        intro v' W19 hown hg hne
        have hb19 : Below W18.heap.size W18 W19 := (((Below.refl W18.heap.size W18).alloc (Nat.le_refl _) (.cells #[] 45)).grown hg (by simp) (fun k e => by cases e; exact Nat.le_refl _))
        obtain ⟨A19, c19, rfl, hc19, _, hrd19⟩ := own_form hown
        replace HA := Lib.hid (HA.out.kept hb19)
        replace HL := Lib.hid (HL.out.trans (hb19.mono HL.out.size))
        replace HM := Lib.hid (ms_kept HM.out hb19)
        have HR19 := Lib.hid hrd19
        clear hown hg hne hb19 hrd19 HOr HOe
        refine hK _ _ ?_
        clear hK K
        go_wp2_with fail
        refine (HLe.out _ _ _ _ _ HM.out HC.out HR19.out).mono ?_
        rintro e W20 ⟨Ap, cp, vp, rfl, hlg, hb⟩
        replace HA := Lib.hid (HA.out.kept hb)
        replace HL := Lib.hid (HL.out.trans (hb.mono HL.out.size))
        have HGe := Lib.hid hlg
        clear hlg hb HM HC HR19 HLe
        generalize W19.heap.size = bs1 at *
        have cHA := HA.out.cell
        have lHA := HA.out.lt
        have hbl2 : q ≤ n2 := by omega
        have hbl3 : q ≤ c2 := by omega
        have hbl4 : ¬ (c2 < q) := by omega
        have hbl5 : ¬ ((c2 : Int) < (q : Int)) := by omega
        have hbl6 : (q : Int) ≤ (c2 : Int) := by omega
        have hbl7 : (0 : Int) ≤ (q : Int) := by omega
        go_upto_region 39 with fail
        go_cut [36, 37] (fun s36 s37 wx => ∃ Aw cw vw bs, s36 = .slice Aw gk.length cw ∧ s37 = .int .i64 e8 ∧ LgS bs (.slice Aw gk.length cw) vw gk wx ∧ Below W20.heap.size W20 wx)
        case first =>
          as_aux_lemma =>
            go_wp2_with fail
            (refine wp_region_calm [] [0, 2, 3, 4] 8 (by kernel_rfl) rfl (by kernel_rfl) (by kernel_rfl) (by kernel_rfl) ?_; simp only [pickB, List.filterMap_cons, List.filterMap_nil, List.getElem?_toArray, List.getElem?_cons_zero, List.getElem?_cons_succ]; (repeat (first | ((first | (with_reducible refine quietL_plain rfl (fun K hK => ?_)) | (with_reducible refine quietL_want (by with_unfolding_all rfl) (fun K hK => ?_))); (apply Exists.intro; refine ⟨fun wx hx => ?_, ?_⟩; (· (have hcx := ifs_ex hx); simp [go_sem, *, ↓IntWalk.iteOmega] <;> (first | rfl | exact ⟨rfl, rfl⟩ | fail)); (simp only [Act.put, List.setIfInBounds_toArray, List.set_cons_zero, List.set_cons_succ]; refine hK _ ?_; clear hK K))) | ((with_reducible refine quietL_skip (by with_unfolding_all rfl) ?_); simp only [Act.put, List.setIfInBounds_toArray, List.set_cons_zero, List.set_cons_succ]))); refine quietL_nil ?_)
            (refine anyB_one (i := 1) (by kernel_rfl) rfl rfl ?_; intro w20 hb20 K hK; have hs20 := hb20.size; (try simp at hs20); go_wp2_with fail)
            refine (HOw.out _ (HL.out.trans (hb20.mono HL.out.size))).mono ?_
            rintro e w21 ⟨Aq, cq, rfl, hm, hc, hb21⟩
            have hs21 := hb21.size
            have HM := Lib.hid hm
            have HC := Lib.hid hc
            clear hm hc
            (go_wp2; refine ⟨xs_, ?_⟩)
            (refine anyB_one (i := 5) (by kernel_rfl) rfl rfl ?_; intro w22 hb22 K hK; have hs22 := hb22.size; (try simp at hs22); go_wp2_with fail)
            refine (HOk.out _ q hbl2 (HL.out.trans ((hb20.trans ((hb21.trans (hb22.mono hs21)).mono hb20.size)).mono HL.out.size))).mono ?_
            rintro e w23 ⟨Ad, cd, rfl, hrd, _, hb23⟩
            have hs23 := hb23.size
            have HRo := Lib.hid hrd
            clear hrd
            (go_wp2; refine ⟨xs_, ?_⟩)
            (refine anyB_one (i := 6) (by kernel_rfl) rfl rfl ?_; intro w24 hb24 K hK; have hs24 := hb24.size; (try simp at hs24); go_wp2_with fail)
            refine (HLk.out _ _ _ _ _ (ms_kept (ms_kept (ms_kept HM.out hb22) hb23) hb24) HC.out (ods_kept HRo.out hb24)).mono ?_
            rintro e w25 ⟨Aw, cw, vw, rfl, hlg, hb25⟩
            have hs25 := hb25.size
            have HGk := Lib.hid hlg
            clear hlg
            (go_wp2; refine ⟨xs_, ?_⟩)
            (refine anyB_quiet_at (by kernel_rfl) calm_panic xs_ 2 [7, 8, 9] _ _ (by kernel_rfl) (by decide +kernel) ?_; simp only [pickB, List.filterMap_cons, List.filterMap_nil, List.getElem?_toArray, List.getElem?_cons_zero, List.getElem?_cons_succ]; (repeat (first | ((first | (with_reducible refine quietL_plain rfl (fun K hK => ?_)) | (with_reducible refine quietL_want (by with_unfolding_all rfl) (fun K hK => ?_))); (apply Exists.intro; refine ⟨fun wx hx => ?_, ?_⟩; (· (have hcx := ifs_ex hx); simp [go_sem, *, ↓IntWalk.iteOmega] <;> (first | rfl | exact ⟨rfl, rfl⟩ | fail)); (simp only [Act.put, List.setIfInBounds_toArray, List.set_cons_zero, List.set_cons_succ]; refine hK _ ?_; clear hK K))) | ((with_reducible refine quietL_skip (by with_unfolding_all rfl) ?_); simp only [Act.put, List.setIfInBounds_toArray, List.set_cons_zero, List.set_cons_succ]))); refine quietL_nil ?_)
            (refine anyB_one (i := 10) (by kernel_rfl) rfl rfl ?_; intro w26 hb26 K hK; have hs26 := hb26.size; (try simp at hs26); go_wp2; refine ⟨xs_, ?_⟩)
            (refine anyB_one (i := 11) (by kernel_rfl) rfl rfl ?_; intro w27 hb27 K hK; have hs27 := hb27.size; (try simp at hs27); go_wp2; refine ⟨xs_, ?_⟩)
            (refine anyB_end (by kernel_rfl) ?_; intro w28 hb28; have hs28 := hb28.size; (try simp at hs28); simp only [Calm])
            have hB1 := hb26.trans ((hb27.trans (hb28.mono hb27.size)).mono hb26.size)
            have hB := hb20.trans ((hb21.trans ((hb22.trans ((hb23.trans ((hb24.trans ((hb25.trans (hB1.mono hs25)).mono hb24.size)).mono hs23)).mono hb22.size)).mono hs21)).mono hb20.size)
            have HB := Lib.hid hB
            have HGk2 := Lib.hid (HGk.out.kept hB1)
            clear hB hB1 hb20 hb21 hb22 hb23 hb24 hb25 hb26 hb27 hb28
            go_wp2_with fail
            go_meet
            case rel => exact ⟨_, _, _, _, rfl, rfl, HGk2.out, HB.out⟩
        rename World => W21
        obtain ⟨Aw, cw, vw, bs2, rfl, rfl, hgk, hb⟩ := hcut
        have HGk := Lib.hid hgk
        replace HGe := Lib.hid (HGe.out.kept hb)
        replace HL := Lib.hid (HL.out.trans (hb.mono HL.out.size))
        clear hgk hb cHA lHA HA HOw HOd HOk HLk
        by_cases h8e : e8 = 0
        · skip
          by_cases h7e : e7 = 0
          · skip
            subst h8e
            subst h7e
            have hlge : ge = logL a (l.eraseIdx q) := by rw [← Hge.out]; exact logV_ok He7.out
            have hlgk : gk = logL a (l.take q) := by rw [← Hgk.out]; exact logV_ok He8.out
            have hpre : (logL a (l.eraseIdx q)).take q = logL a (l.take q) := by
              have := logL_pre (l.take q) (l.drop (q + 1)) a
              rw [← erase_split, List.length_take, Nat.min_eq_left (by have := HEn.out.2.2.2.2.2; omega)] at this
              exact this
            have hel : ge.length = m := by
              rw [hlge, logL_len, List.length_eraseIdx, if_pos (by have := HEn.out.2.2.2.2.2; omega)]
              have := HEn.out.2.2.2.2.2
              have := HMm.out
              omega
            have hkl : gk.length = q := by
              rw [hlgk, logL_len, List.length_take]
              have := HEn.out.2.2.2.2.2
              omega
            have hrow : ∀ (i : Nat) (h1 : i < ge.length) (h2 : i < gk.length), ge[i] = gk[i] := fun i h1 h2 => by
              have e := congrArg (fun x => x[i]?) hpre
              simp only [List.getElem?_take] at e
              rw [if_pos (by omega), ← hlge, ← hlgk, List.getElem?_eq_getElem h1, List.getElem?_eq_getElem h2] at e
              exact Option.some.inj e
            obtain ⟨bk, hgo⟩ : ∃ b, goTo a (l.take q) = some b := by
              rcases wrk_cases HOOk.out with ⟨b, h, _⟩ | ⟨k, b, hk, _, h2, h3⟩
              · exact ⟨b, h⟩
              · exact absurd (h3.symm.trans He8.out) h2
            have hin : ∀ r ∈ gk, ∀ z ∈ r, 0 ≤ z ∧ z ≤ 16384 := by rw [hlgk]; exact logL_in HEn.out.1 Hok.out hgo
            have hln : ∀ r ∈ gk, r.length = n := by rw [hlgk]; exact logL_rows HEn.out.2.2.2.2.1
            have HEl := Lib.hid hel
            have HKl := Lib.hid hkl
            have HRow := Lib.hid hrow
            have HIn := Lib.hid hin
            have HLn := Lib.hid hln
            have hge2 := HGe.out
            have hgk2 := HGk.out
            rw [hel] at hge2
            rw [hkl] at hgk2
            have HGe2 := Lib.hid hge2
            have HGk2 := Lib.hid hgk2
            rw [hel, hkl]
            have o1 : ¬ ((m : Int) < (q : Int)) := by omega
            have o2 : ((q : Int) != (q : Int)) = false := by simp
            clear hlge hlgk hpre hel hkl hrow hgo hin hln HGe HGk hge2 hgk2
            go_upto_block 6 with fail
            go_cut [] (fun wx => Below W21.heap.size W21 wx)
            case first =>
              as_aux_lemma =>
                go_wp2_with fail
                go_loopw [309] (fun s309 wr => ∃ k : Nat, k ≤ q ∧ s309 = .int .i64 (k : Int) ∧ Below W21.heap.size W21 wr) (fun s309 _ => q - (intOf s309).toNat)
                case atStart => exact ⟨0, by omega, rfl, Below.refl _ _⟩
                case round =>
                  obtain ⟨k, hk, rfl, hb⟩ := hrel
                  have HB := Lib.hid hb
                  have HE2 := Lib.hid (HGe2.out.kept hb)
                  have HK2 := Lib.hid (HGk2.out.kept hb)
                  clear hb
                  by_cases hlt : k < q
                  · skip
                    have hdk : decide ((k : Int) < (q : Int)) = true := by simp; omega
                    have k1 : k < ge.length := by rw [HEl.out]; omega
                    have k2 : k < gk.length := by rw [HKl.out]; exact hlt
                    obtain ⟨b1, o1', A1, c1, ea, hb1, y1, r1⟩ := HE2.out.at_ HEl.out.symm k1
                    obtain ⟨b2, o2', A2', c2', eb, hb2, y2, r2⟩ := HK2.out.at_ HKl.out.symm k2
                    have hkm : (k : Int) < (m : Int) := by omega
                    have hkq : (k : Int) < (q : Int) := by omega
                    rw [HRow.out k k1 k2] at y1 r1
                    have hlen := HLn.out _ (List.getElem_mem k2)
                    have hzz := HIn.out _ (List.getElem_mem k2)
                    rw [hlen] at y1 y2 r1 r2
                    rw [smps_map] at r1 r2
                    have HSS := Lib.hid (fun W' (hW : Below wr.heap.size wr W') => SameSamples_yes wr.heap.size A1 A2' n c1 c2' _ W' (r1.below hW) (r2.below hW) hW.size (by omega) (smp_fine hzz))
                    subst ea
                    subst eb
                    clear r1 r2 hlen hzz
                    generalize gk[k] = rr at *
                    go_upto_region 49 with fail
                    go_cut [321] (fun s321 wx => s321 = .bool false ∧ Below wr.heap.size wr wx)
                    case first =>
                      as_aux_lemma =>
                        go_wp2_with fail
                        (refine wp_region_calm [] [0, 1, 2, 3, 4, 5, 6, 7, 8, 9] 0 (by kernel_rfl) rfl (by kernel_rfl) (by kernel_rfl) (by kernel_rfl) ?_; simp only [pickB, List.filterMap_cons, List.filterMap_nil, List.getElem?_toArray, List.getElem?_cons_zero, List.getElem?_cons_succ]; (repeat (first | ((first | (with_reducible refine quietL_plain rfl (fun K hK => ?_)) | (with_reducible refine quietL_want (by with_unfolding_all rfl) (fun K hK => ?_))); (apply Exists.intro; refine ⟨fun wx hx => ?_, ?_⟩; (· (have hcx := ifs_ex hx); simp [go_sem, *, ↓IntWalk.iteOmega] <;> (first | rfl | exact ⟨rfl, rfl⟩ | (with_reducible exact calls_B (HSS.out _ (Ex.low hx))))); (simp only [Act.put, List.setIfInBounds_toArray, List.set_cons_zero, List.set_cons_succ]; refine hK _ ?_; clear hK K))) | ((with_reducible refine quietL_skip (by with_unfolding_all rfl) ?_); simp only [Act.put, List.setIfInBounds_toArray, List.set_cons_zero, List.set_cons_succ]))); refine quietL_nil ?_)
                        (refine anyB_end (by kernel_rfl) ?_; intro w5 hb5; have hs5 := hb5.size; (try simp at hs5); simp only [Calm])
                        have HB5 := Lib.hid hb5
                        go_wp2_with fail
                        go_meet
                        case rel => exact ⟨rfl, HB5.out⟩
                    rename World => W22
                    obtain ⟨rfl, hb⟩ := hcut
                    have HB2 := Lib.hid (HB.out.trans (hb.mono HB.out.size))
                    clear hb
                    go_wp2_with fail
                    go_roundw
                    case rel => exact ⟨k + 1, by omega, by go_num, HB2.out⟩
                    case measure => simp [intOf]; omega
                  · obtain rfl : k = q := by omega
                    go_wp2_with fail
                    go_meet
                    case rel => exact HB.out
            rename World => W23
            have HL2 := Lib.hid (HL.out.trans (hcut.mono HL.out.size))
            clear hcut
            go_wp2_with fail
            go_ret
            exact ⟨rfl, HL2.out⟩
          · skip
            as_aux_lemma =>
              subst h8e
              have h4 := wrk_four HOOe.out (by rw [He7.out]; exact h7e)
              rw [He7.out] at h4
              rcases h4 with rfl | rfl | rfl | rfl
              all_goals
                go_wp2_with fail
                go_ret
                exact ⟨rfl, HL.out⟩
        · skip
          as_aux_lemma =>
            have h78 : e7 = e8 := by
              have := wrk_app (x := l.take q) (y := l.drop (q + 1)) (by rw [← erase_split]; exact HOOe.out) HOOk.out (by rw [He8.out]; exact h8e)
              rw [← erase_split, He7.out, He8.out] at this
              exact this
            subst h78
            have o1 : (e7 != 0) = true := by simpa using h8e
            have o2 : (e7 == e7) = true := by simp
            go_wp2_with fail
            go_ret
            exact ⟨by first | rfl | (simp; done), HL.out⟩
end Go.Proofs.YtafnebfchhmgcaaGreat
