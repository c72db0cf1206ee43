/-
  show.Text of an array of numbers: its text, or the error's number.
-/
import Derived.Test.YtbgjcadjkkddhaaDoorWidths
import Derived.Test.YtbgjcadjkkddhaaDoorTextPlain
namespace Go.Proofs.YtbgjcadjkkddhaaDoor
open Go.RowKit

theorem text_ret {s d : List Int} {T : TypeId} {t : List UInt8} {V : Value} (h : numsText s d = t) (hV : V = errV T (checkF false s d)) :
    Ending.returned (.tuple #[.string ⟨t.toArray⟩, V]) = .returned (.tuple #[.string ⟨(numsText s d).toArray⟩, errV T (checkF false s d)]) := by rw [h, hV]

set_option maxHeartbeats 2000000 in
set_option maxRecDepth 100000 in
theorem show_Text_nums (p q : Option Addr) (c1 c2 : Nat) (s d : List Int) (w : World) (hs : IntsAt w p c1 s) (hd : IntsAt w q c2 d) (hG : Glob w) :
    Calls Tryd.prog 17 #[.agg #[.bool false, .slice p s.length c1, .slice q d.length c2]] w fun e w' => e = .returned (.tuple #[.string ⟨(numsText s d).toArray⟩, errV 31 (checkF false s d)]) ∧ Below w.heap.size w w' ∧ (numsText s d).length ≤ 192512 := by
  have hC := fun w' (hb : Below w.heap.size w w') => arr_Check false p q c1 c2 s d w' (hs.below hb) (hd.below hb)
  have hm1 := len_max hs.le hs.max
  have hm2 := len_max hd.le hd.max
  have Hs := Lib.hid hs
  have Hd := Lib.hid hd
  have HG := Lib.hid hG
  clear hs hd hG
  obtain ⟨e, he⟩ : ∃ x, x = checkF false s d := ⟨_, rfl⟩
  rw [← he] at hC
  have He := Lib.hid he
  clear he
  have hbox : ∀ (o : Obj), Below w.heap.size w (w.alloc o) := fun o => (Below.refl _ _).alloc (Nat.le_refl _) o
  obtain ⟨O, hO⟩ : ∃ O : Obj, O = .cells #[.bool false, .slice p s.length c1, .slice q d.length c2] 25 := ⟨_, rfl⟩
  have hcells : ∀ W, Below (w.alloc O).heap.size (w.alloc O) W → W.cell? ⟨w.heap.size, 0, none⟩ = some (.bool false) ∧ W.cell? ⟨w.heap.size, 1, none⟩ = some (.slice p s.length c1) ∧ W.cell? ⟨w.heap.size, 2, none⟩ = some (.slice q d.length c2) := fun W h => by
    have h1 : W.heap[w.heap.size]? = some (.cells #[.bool false, .slice p s.length c1, .slice q d.length c2] 25 (0, 0)) := by
      rw [h.block _ (by simp)]
      show (w.heap.push O)[w.heap.size]? = _
      rw [hO]; simp
    exact ⟨by simp [World.cell?, h1], by simp [World.cell?, h1], by simp [World.cell?, h1]⟩
  have Hcells := Lib.hid hcells
  have HO := Lib.hid hO
  clear hcells hO
  by_cases h0 : e = 0
  · subst h0
    simp only [errV_zero] at hC
    have HC := Lib.hid hC
    clear hC
    by_cases hd0 : d = []
    · subst hd0
      have ht : numsText s [] = [] := by unfold numsText; rw [if_neg (by rw [← He.out]; simp)]; rfl
      have Ht := Lib.hid ht
      clear ht
      go_enter Tryd.func17, Tryd.ntmps17
      go_wp2_with fail
      refine (HC.out _ (hbox _)).mono ?_
      rintro e w1 ⟨rfl, hb1⟩
      have hb2 := Hcells.out w1 (by rw [HO.out]; exact hb1)
      obtain ⟨k0, k1, k2⟩ := hb2
      have Hb1 := Lib.hid ((hbox _).trans (hb1.mono (by simp)))
      clear hb1
      go_wp2_with fail
      go_ret2
      exact ⟨text_ret Ht.out (by rw [← He.out]; exact (errV_zero _).symm), Hb1.out, by rw [Ht.out]; simp⟩
    · obtain ⟨hR1, hR2, hC1, hC2, hRC, hdl, ⟨qq, hq⟩, hdim⟩ := dims_ok He.out.symm hd0
      obtain ⟨R, hR⟩ : ∃ R, R = dimR s := ⟨_, rfl⟩
      obtain ⟨C, hC'⟩ : ∃ C, C = dimC s d := ⟨_, rfl⟩
      rw [← hR] at hR1 hR2 hRC hq hdim
      rw [← hC'] at hC1 hC2 hRC hq hdim
      obtain ⟨T, hT⟩ : ∃ T, T = R * C := ⟨_, rfl⟩
      rw [← hT] at hRC hq
      have hT1 : 1 ≤ T := by rw [hT]; exact Nat.mul_pos hR1 hC1
      have hwT : wrap64 ((R : Int) * (C : Int)) = (T : Int) := by
        have : ((T : Nat) : Int) = (R : Int) * (C : Int) := by rw [hT]; exact Int.natCast_mul _ _
        rw [this]; exact wrap_mul (by omega) (by omega) (by omega) (by omega)
      have hn0 : 0 < d.length := List.length_pos_iff.2 hd0
      have ht : numsText s d = tablesFrom R C (decide (1 < s.length)) d.length d := by unfold numsText; rw [if_neg (by rw [← He.out]; simp), ← hR, ← hC']
      have Ht := Lib.hid ht
      have HT := Lib.hid hT
      have Hq := Lib.hid hq
      have Hdim := Lib.hid hdim
      have HR := Lib.hid hR
      have HC' := Lib.hid hC'
      have hne : ((d.length : Int) == 0) = false := by simp; exact hd0
      clear ht hT hq hdim hR hC' hd0
      go_enter Tryd.func17, Tryd.ntmps17
      go_wp2_with fail
      refine (HC.out _ (hbox _)).mono ?_
      rintro e w1 ⟨rfl, hb1⟩
      rw [← HO.out] at hb1
      obtain ⟨k0, k1, k2⟩ := Hcells.out w1 hb1
      have Hb1 := Lib.hid hb1
      clear hb1
      go_wp2_with fail
      obtain ⟨b, hb⟩ : ∃ b, b = w1.heap.size := ⟨_, rfl⟩
      obtain ⟨wl, hwl⟩ : ∃ W, W = w1.alloc (.cells #[.pointer none, .slice none 0 0] 86) := ⟨_, rfl⟩
      rw [← hwl, ← hb]
      have hbl : Bld 86 b b [] wl := by
        have h1 : wl.heap[b]? = some (.cells #[.pointer none, .slice none 0 0] 86 (0, 0)) := by rw [hwl, hb]; show (w1.heap.push _)[w1.heap.size]? = _; simp
        exact .inl ⟨Nat.le_refl _, _, h1, ⟨by simp [Lib.byteCells], .inl ⟨rfl, by simp [Lib.byteCells]⟩⟩, by simp [Value.ownBlock]⟩
      have hsz : wl.heap.size = b + 1 := by rw [hwl, hb]; simp
      have hwl1 : Below w1.heap.size w1 wl := by rw [hwl]; exact (Below.refl _ _).alloc (Nat.le_refl _) _
      have hbO : (w.alloc O).heap.size ≤ b := by rw [hb]; exact Hb1.out.size
      have hkeep : ∀ W, Below b wl W → Below (w.alloc O).heap.size (w.alloc O) W := fun W h => Hb1.out.trans ((hwl1.mono Hb1.out.size).trans (h.mono hbO))
      have hkeep0 : ∀ W, Below b wl W → Below w.heap.size w W := fun W h => (hbox O).trans ((hkeep W h).mono (by simp))
      have hcl : ∀ W, Below b wl W → W.cell? ⟨w.heap.size, 0, none⟩ = some (.bool false) ∧ W.cell? ⟨w.heap.size, 1, none⟩ = some (.slice p s.length c1) ∧ W.cell? ⟨w.heap.size, 2, none⟩ = some (.slice q d.length c2) := fun W h => Hcells.out W (hkeep W h)
      obtain ⟨k0, k1, k2⟩ := hcl wl (Below.refl _ _)
      have Hbl := Lib.hid hbl
      have Hsz := Lib.hid hsz
      have Hkeep0 := Lib.hid hkeep0
      have Hcl := Lib.hid hcl
      obtain ⟨a0, ha0⟩ : ∃ a, a = w.heap.size := ⟨_, rfl⟩
      rw [← ha0] at k0 k1 k2 Hcl ⊢
      have Ha0 := Lib.hid ha0
      clear hbl hsz hwl1 hbO hkeep hkeep0 hcl hwl hb ha0 hbox HO Hb1 Hcells HC
      go_quiet (fail)
      go_upto_if 30 with fail
      go_cut [7, 8] (fun r c wx => (∃ m, wx = wl.drewN m) ∧ r = .int .i64 R ∧ c = .int .i64 C)
      case first =>
        by_cases hrk : 1 < s.length
        · obtain ⟨hdr, hdc⟩ := Hdim.out hrk
          have hs1 := Hs.out.below (Hkeep0.out wl (Below.refl _ _))
          have c2' := hs1.get (s.length - 2) (by omega)
          have c1' := hs1.get (s.length - 1) (by omega)
          rw [hdr] at c2'
          rw [hdc] at c1'
          have i2 : ∀ W, (Instr.indexAt 23 (.slice p s.length c1) (.int .i64 ((s.length : Int) - 2))).run Tryd.prog W = .ok (.pointer (some (addrAt p (s.length - 2)))) W := fun W => by
            rw [show ((s.length : Int) - 2) = ((s.length - 2 : Nat) : Int) by omega]
            exact hs1.idx Tryd.underlying23 Tryd.sizeOf3 rfl .i64 _ (by omega) W
          have i1 : ∀ W, (Instr.indexAt 23 (.slice p s.length c1) (.int .i64 ((s.length : Int) - 1))).run Tryd.prog W = .ok (.pointer (some (addrAt p (s.length - 1)))) W := fun W => by
            rw [show ((s.length : Int) - 1) = ((s.length - 1 : Nat) : Int) by omega]
            exact hs1.idx Tryd.underlying23 Tryd.sizeOf3 rfl .i64 _ (by omega) W
          have w2 : IntKind.i64.wrap ((s.length : Int) - 2) = (s.length : Int) - 2 := IntWalk.i64_in _ ⟨by omega, by omega⟩
          have w1' : IntKind.i64.wrap ((s.length : Int) - 1) = (s.length : Int) - 1 := IntWalk.i64_in _ ⟨by omega, by omega⟩
          have hs1' := trivial
          clear hdr hdc hs1 hs1'
          go_wp2_with fail
          go_quiet (fail)
          go_wp2_with fail
          go_meet
          case rel => exact ⟨⟨_, World.drewN_drewN ..⟩, rfl, rfl⟩
        · go_wp2_with fail
          go_meet
          case rel => exact ⟨⟨_, rfl⟩, congrArg (Value.int .i64) (by rw [HR.out]; unfold dimR; rw [if_neg (by omega)]; rfl), congrArg (Value.int .i64) (by rw [HC'.out]; unfold dimC; rw [if_neg (by omega)])⟩
      case rest =>
        obtain ⟨⟨m0, rfl⟩, rfl, rfl⟩ := hcut
        have Hre0 : Hid (Reach b b wl (wl.drewN m0)) := ⟨below_drewN (Below.refl _ _) _, Lib.OthersKept.refl _ _ _⟩
        have Hbl0 : Hid (Bld 86 b b [] (wl.drewN m0)) := bld_below Hbl.out (below_drewN (Below.refl _ _) _)
        clear Hbl k0 k1 k2
        have hB : b ≤ wl.heap.size := by rw [Hsz.out]; omega
        obtain ⟨rk, hrk⟩ : ∃ r, r = decide (1 < s.length) := ⟨_, rfl⟩
        rw [← hrk] at Ht
        have Hrk := Lib.hid hrk
        clear hrk
        go_wp2_with fail
        go_loopw [9] (fun i wr => ∃ (f g : Nat) (pre : List UInt8), f ≤ d.length ∧ i = .int .i64 f ∧ (∃ t, d.length - f = t * T) ∧ Reach b b wl wr ∧ Bld 86 b b pre wr ∧ tablesFrom R C rk d.length d = pre ++ tablesFrom R C rk g (d.drop f) ∧ d.length - f ≤ g ∧ pre.length ≤ 47 * f) (fun i _ => d.length - (intOf i).toNat)
        case atStart => exact ⟨0, d.length, [], by omega, rfl, ⟨qq, by simpa using Hq.out⟩, Hre0.out, Hbl0.out, by simp, by omega, by simp⟩
        case round =>
          obtain ⟨f, g, pre, hf, rfl, ⟨t, htT⟩, hre, hbl, htx, hg, hpl⟩ := hrel
          have Hre := Lib.hid hre
          have Hbl := Lib.hid hbl
          have Htx := Lib.hid htx
          obtain ⟨k0, k1, k2⟩ := Hcl.out wr hre.1
          have HtT := Lib.hid htT
          clear hre hbl htx htT Hre0 Hbl0
          by_cases hlt : f < d.length
          · have hTf : f + T ≤ d.length := by
              have h1 := HtT.out
              have h2 : 1 ≤ t := by
                rcases Nat.eq_zero_or_pos t with h | h
                · rw [h, Nat.zero_mul] at h1; omega
                · exact h
              have h3 : 1 * T ≤ t * T := Nat.mul_le_mul_right _ h2
              omega
            have hdI : ∀ W, Below b wl W → IntsAt W q c2 d := fun W h => Hd.out.below (Hkeep0.out W h)
            have hqs := Hd.out.some' (List.length_pos_iff.1 hn0)
            have hcap := Hd.out.le
            have hsl : ∀ W, (Instr.sliceAt 23 (.slice q d.length c2) (some (.int .i64 (f : Int))) (some (.int .i64 ((f : Int) + (T : Int)))) none).run Tryd.prog W = .ok (.slice (some (addrAt q f)) T (c2 - f)) W := fun W => by
              have h1 := sliceLH (P := Tryd.prog) Tryd.underlying23 Tryd.sizeOf3 (p := q) (n := d.length) (cap := c2) (l := f) (h := f + T) hqs (by omega) (by omega) (by omega) .i64 .i64 (el := (f : Int)) (eh := (f : Int) + (T : Int)) rfl (by omega) W
              rwa [Nat.add_sub_cancel_left] at h1
            have HdI := Lib.hid hdI
            clear hdI
            obtain ⟨tbl, htb⟩ : ∃ x, x = (d.drop f).take T := ⟨_, rfl⟩
            have htl : tbl.length = T := by rw [htb]; simp; omega
            have Htb := Lib.hid htb
            have Htl := Lib.hid htl
            have Hqs := Lib.hid hqs
            clear htb htl hqs
            go_upto_region 16 with fail
            go_cut [68] (fun u wx => wx = wr ∧ u = .bool rk)
            case first =>
              by_cases h1 : 1 < s.length
              · go_wp2_with fail
                go_meet
                case rel => exact ⟨rfl, congrArg Value.bool (by rw [Hrk.out]; simp [h1])⟩
              · go_wp2_with fail
                go_meet
                case rel => exact ⟨rfl, congrArg Value.bool (by rw [Hrk.out]; simp; omega)⟩
            case rest =>
              obtain ⟨rfl, rfl⟩ := hcut
              clear hsl
              go_upto_if 68 with fail
              go_cut [11] (fun u wx => Reach b b wl wx ∧ Bld 86 b b pre wx ∧ ∃ pw cw, u = .slice pw (tableWide C rk tbl).length cw ∧ ∀ W, Reach b b wx W → IntsAt W pw cw (tableWide C rk tbl))
              case first =>
                cases rk with
                | true =>
                  have htI : IntsAt wc (some (addrAt q f)) (c2 - f) tbl := by
                    have := (HdI.out wc Hre.out.1).sub (l := f) (r := f + T) (by omega) hTf
                    rwa [Nat.add_sub_cancel_left, ← Htb.out] at this
                  have hG := HG.out.below (Hkeep0.out wc Hre.out.1) HG.out.lt
                  have hW := show_widths tbl (some (addrAt q f)) (c2 - f) C wc htI (by omega) hC2 hG
                  rw [Htl.out] at hW
                  have HW := Lib.hid hW
                  clear htI hG hW
                  go_wp2_with fail
                  refine HW.out.mono ?_
                  rintro e w3 ⟨rfl, h1, h2⟩
                  have H1 := Lib.hid h1
                  have H2 := Lib.hid h2
                  clear h1 h2
                  go_wp2_with fail
                  go_meet
                  case rel =>
                    have hl : (tableWide C true tbl).length = C := by simp [tableWide, widths_len]
                    refine ⟨Hre.out.grow hB H2.out, bld_below Hbl.out H2.out, some ⟨wc.heap.size, 0, none⟩, C, by rw [hl], fun W h => ?_⟩
                    have hgb : wc.heap.size ≠ b := by have := Hre.out.1.size; have := Hsz.out; omega
                    have h5 := H1.out.reach h hgb
                    have ht : tableWide C true tbl = widthsFrom C 0 tbl (List.replicate C 0) := rfl
                    rw [ht]
                    have h6 := h5.ints (fun x hx => by
                      have := widths_le C tbl (List.replicate C 0) 0 (fun y hy => Hd.out.rng y (by rw [Htb.out] at hy; exact List.mem_of_mem_drop (List.mem_of_mem_take hy))) (fun y hy => by rw [(List.mem_replicate.1 hy).2]; omega) x hx
                      exact ⟨by omega, by omega⟩) (by rw [widths_len]; simp; omega)
                    rw [widths_len, List.length_replicate] at h6
                    exact h6
                | false =>
                  go_wp2_with fail
                  go_meet
                  case rel => exact ⟨Hre.out, Hbl.out, none, 0, rfl, fun W _ => IntsAt.nil W⟩
              case rest =>
                obtain ⟨hre1, hbl1, pw, cw, rfl, hwd⟩ := hcut
                obtain ⟨wt, rfl⟩ : ∃ W : World, W = wc := ⟨_, rfl⟩
                have Hre1 := Lib.hid hre1
                have Hbl1 := Lib.hid hbl1
                have Hwd := Lib.hid hwd
                clear hre1 hbl1 hwd k0 k1 k2 Hre Hbl
                go_wp2_with fail
                go_loopw [73] (fun i wr2 => ∃ (k o : Nat) (pre2 : List UInt8), k ≤ R ∧ i = .int .i64 k ∧ o = k * C ∧ Reach b b wt wr2 ∧ Bld 86 b b (pre ++ pre2) wr2 ∧ rowsFrom (tableWide C rk tbl) C 0 R tbl = pre2 ++ rowsFrom (tableWide C rk tbl) C k (R - k) (tbl.drop o) ∧ pre2.length ≤ 45 * o) (fun i _ => R - (intOf i).toNat)
                case atStart => exact ⟨0, 0, [], by omega, rfl, by simp, Reach.refl _ _ _, by simpa using Hbl1.out, by simp, by simp⟩
                case round =>
                  obtain ⟨k, o, pre2, hk, rfl, ho, hre2, hbl2, hrw, hpl2⟩ := hrel
                  have Hre2 := Lib.hid hre2
                  have Hre2w : Hid (Reach b b wl wr) := Hre1.out.step hre2.1 hre2.2
                  have Hbl2 := Lib.hid hbl2
                  have Hrw := Lib.hid hrw
                  have Ho := Lib.hid ho
                  clear hre2 hbl2 hrw ho
                  by_cases hkR : k < R
                  · have hoC : o + C ≤ T := by
                      have h1 : (k + 1) * C ≤ R * C := Nat.mul_le_mul_right _ hkR
                      rw [Nat.add_mul, Nat.one_mul, ← Ho.out, ← HT.out] at h1
                      exact h1
                    have ho1 : (k : Int) * (C : Int) = (o : Int) := by rw [Ho.out]; exact (Int.natCast_mul _ _).symm
                    have ho2 : ((k : Int) + 1) * (C : Int) = (o : Int) + (C : Int) := by rw [Int.add_mul, Int.one_mul, ho1]
                    have hsl : ∀ W, (Instr.sliceAt 23 (.slice (some (addrAt q f)) T (c2 - f)) (some (.int .i64 (o : Int))) (some (.int .i64 ((o : Int) + (C : Int)))) none).run Tryd.prog W = .ok (.slice (some (addrAt q (f + o))) C (c2 - f - o)) W := fun W => by
                      have h1 := sliceLH (P := Tryd.prog) Tryd.underlying23 Tryd.sizeOf3 (p := some (addrAt q f)) (n := T) (cap := c2 - f) (l := o) (h := o + C) rfl (by omega) (by omega) (by omega) .i64 .i64 (el := (o : Int)) (eh := (o : Int) + (C : Int)) rfl (by omega) W
                      rwa [Nat.add_sub_cancel_left, addrAt_add] at h1
                    have bo : (-9223372036854775808 : Int) ≤ (o : Int) ∧ (o : Int) ≤ 9223372036854775807 := ⟨by omega, by omega⟩
                    have boC : (-9223372036854775808 : Int) ≤ (o : Int) + (C : Int) ∧ (o : Int) + (C : Int) ≤ 9223372036854775807 := ⟨by omega, by omega⟩
                    have hw1 : wrap64 ((k : Int) * (C : Int)) = (o : Int) := by rw [ho1]; exact IntWalk.wrap64_in _ bo
                    have hw2 : wrap64 (((k : Int) + 1) * (C : Int)) = (o : Int) + (C : Int) := by rw [ho2]; exact IntWalk.wrap64_in _ boC
                    have Hw1 := Lib.hid hw1
                    have Hw2 := Lib.hid hw2
                    clear ho1 ho2 bo boC hw1 hw2
                    go_upto_if 77 with fail
                    go_cut [] (fun wx => Reach b b wt wx ∧ Bld 86 b b (pre ++ (pre2 ++ if 0 < k then [10] else [])) wx)
                    case first =>
                      by_cases h0 : 0 < k
                      · go_wp2_with fail
                        refine (bld_WriteByte _ liesW b b _ 10 _ Hbl2.out (by rw [Lib.byteCells_length, List.length_append]; omega) (Hre2w.out.size hB)).mono ?_
                        rintro e w5 ⟨rfl, h1, h2, h3⟩
                        have H1 := Lib.hid h1
                        have H2 := Lib.hid (Hre2.out.step h2 h3)
                        clear h1 h2 h3
                        go_wp2_with fail
                        go_meet
                        case rel => exact ⟨H2.out, .inr (by simpa [Lib.byteCells, h0] using H1.out)⟩
                      · go_wp2_with fail
                        go_meet
                        case rel => exact ⟨Hre2.out, by rw [if_neg (by omega)]; simpa using Hbl2.out⟩
                    case rest =>
                      obtain ⟨hre3, hbl3⟩ := hcut
                      obtain ⟨wu, rfl⟩ : ∃ W : World, W = wc := ⟨_, rfl⟩
                      obtain ⟨pre3, hp3⟩ : ∃ x, x = pre2 ++ (if 0 < k then [10] else []) := ⟨_, rfl⟩
                      rw [← hp3] at hbl3
                      have hpl3 : pre3.length ≤ 45 * o + 1 := by rw [hp3]; split <;> simp <;> omega
                      have Hre3w : Hid (Reach b b wl wu) := Hre1.out.step hre3.1 hre3.2
                      obtain ⟨k0, k1, k2⟩ := Hcl.out wu Hre3w.out.1
                      obtain ⟨row, hrow⟩ : ∃ x, x = (tbl.drop o).take C := ⟨_, rfl⟩
                      have hrl : row.length = C := by rw [hrow]; simp; rw [Htl.out]; omega
                      have htR : ∀ x ∈ tbl, I64 x := fun x hx => Hd.out.rng x (by rw [Htb.out] at hx; exact List.mem_of_mem_drop (List.mem_of_mem_take hx))
                      have hnl := numsFrom_len (wide_le (C := C) (rk := rk) htR) row 0 (fun x hx => htR x (by rw [hrow] at hx; exact List.mem_of_mem_drop (List.mem_of_mem_take hx)))
                      rw [hrl] at hnl
                      have hN := show_numbers b b (pre ++ pre3) row (tableWide C rk tbl) (some (addrAt q (f + o))) pw (c2 - f - o) cw wu hbl3 (Hre3w.out.size hB)
                        (fun W h => by
                          have h1 := (HdI.out W (Hre3w.out.1.trans h.1)).sub (l := f) (r := f + T) (by omega) hTf
                          rw [Nat.add_sub_cancel_left, ← Htb.out] at h1
                          have h2 := h1.sub (l := o) (r := o + C) (by omega) (by rw [Htl.out]; exact hoC)
                          rwa [Nat.add_sub_cancel_left, ← hrow, addrAt_add] at h2)
                        (fun W h => Hwd.out W (hre3.step h.1 h.2))
                        (fun W h => HG.out.below (Hkeep0.out W (Hre3w.out.1.trans h.1)) HG.out.lt)
                        (fun i hi hi2 => wide_ok (by omega) Ho.out (by rw [Htl.out]; exact hoC) hrow (by rw [← hrl]; exact hi) hi2 htR)
                        (by rw [List.length_append, hrl]; omega)
                      rw [hrl] at hN
                      have HN := Lib.hid hN
                      have Hre3 := Lib.hid hre3
                      have Hp3 := Lib.hid hp3
                      have Hrow := Lib.hid hrow
                      have hw1 := Hw1.out
                      have hw2 := Hw2.out
                      clear hre3 hbl3 hp3 hrow hrl hN Hbl2 Hre2 Hre2w htR
                      go_upto_region 24 with fail
                      clear hw1 hw2 hsl
                      go_wp2_with fail
                      refine HN.out.mono ?_
                      rintro e w6 ⟨rfl, h1, h2⟩
                      have H1 := Lib.hid h1
                      have H2 := Lib.hid (Hre3.out.step h2.1 h2.2)
                      clear h1 h2
                      go_wp2_with fail
                      go_roundw
                      case rel =>
                        refine ⟨k + 1, o + C, pre3 ++ numsFrom (tableWide C rk tbl) 0 row, by omega, by go_num, ?_, H2.out, by simpa using H1.out, ?_, ?_⟩
                        · rw [Nat.add_mul, Nat.one_mul, ← Ho.out]
                        · rw [Hrw.out, show R - k = (R - (k + 1)) + 1 by omega, rowsFrom, Hp3.out, ← Hrow.out, List.drop_drop]
                          simp
                        · rw [List.length_append]; omega
                      case measure => simp [intOf]; omega
                  · have hkR2 : k = R := by omega
                    have hrows : rowsFrom (tableWide C rk tbl) C 0 R tbl = pre2 := by
                      rw [Hrw.out, show R - k = 0 by omega, rows_end, List.append_nil]
                    have hoT : o = T := by rw [Ho.out, HT.out, hkR2]
                    obtain ⟨g', hg'⟩ : ∃ g', g = g' + 1 := ⟨g - 1, by omega⟩
                    have hne2 : d.drop f ≠ [] := fun e => by have := congrArg List.length e; simp at this; omega
                    have hstep : tablesFrom R C rk d.length d = pre ++ (pre2 ++ ((if T < d.length - f then [10, 10] else []) ++ tablesFrom R C rk g' (d.drop (f + T)))) := by
                      rw [Htx.out, hg', tables_step hne2 (tbl := tbl) (by rw [Htb.out, HT.out]), hrows, ← HT.out, List.length_drop, List.drop_drop]
                    have Hstep := Lib.hid hstep
                    have htl2 : d.length - (f + T) = (t - 1) * T := by
                      have h1 := HtT.out
                      rcases Nat.eq_zero_or_pos t with h | h
                      · rw [h, Nat.zero_mul] at h1; omega
                      · rw [Nat.sub_mul, Nat.one_mul]; omega
                    have Htl2 := Lib.hid htl2
                    clear hrows hne2 hstep htl2 hkR2
                    subst hoT hg'
                    have HwT := Lib.hid hwT
                    clear hwT
                    obtain ⟨k0, k1, k2⟩ := Hcl.out wr Hre2w.out.1
                    have HT1 := Lib.hid hT1
                    go_upto_region 28 with fail
                    by_cases h0 : f + o < d.length
                    · have hif : (if o < d.length - f then ([10, 10] : List UInt8) else []) = [10, 10] := by rw [if_pos (by omega)]
                      have Hif := Lib.hid hif
                      have hwT := HwT.out
                      have HP := Lib.hid (And.intro hg (And.intro hTf (And.intro hpl hpl2)))
                      have hPP : pre.length + pre2.length ≤ 400000 := by clear hwT; omega
                      have hf4 : f ≤ 4096 := by clear hwT; omega
                      have ho4 : o ≤ 4096 := by clear hwT; omega
                      have h0I : (f : Int) + (o : Int) < (d.length : Int) := by clear hwT; omega
                      have hfo : wrap64 ((f : Int) + (o : Int)) = (f : Int) + (o : Int) := by clear hwT; exact IntWalk.wrap64_in _ ⟨by omega, by omega⟩
                      clear hif hg hTf hpl hpl2 hk hkR hcap hn0 hR1 hR2 hC1 hC2 hRC hT1 hm1 hlt k0 k1 hf
                      go_wp2_with fail
                      refine (bld_WriteString _ liesW b b _ ⟨#[10, 10]⟩ _ Hbl2.out (by rw [Lib.byteCells_length, List.length_append]; simp [ByteArray.size]; omega) (Hre2w.out.size hB)).mono ?_
                      rintro e w7 ⟨rfl, h1, h2, h3⟩
                      have H1 : Hid (Bld 86 b b (pre ++ (pre2 ++ [10, 10])) w7) := .inr (by simpa [Lib.byteCells, Lib.strCells] using h1)
                      have H2 := Lib.hid (Hre2w.out.step h2 h3)
                      clear h1 h2 h3
                      go_wp2_with fail
                      obtain ⟨hg, hTf, hpl, hpl2⟩ := HP.out
                      have hT1 := HT1.out
                      clear hwT hfo
                      go_roundw
                      case rel =>
                        refine ⟨f + o, g', pre ++ (pre2 ++ [10, 10]), by omega, by go_num, ⟨t - 1, Htl2.out⟩, H2.out, H1.out, ?_, by omega, ?_⟩
                        · rw [Hstep.out, Hif.out]
                          simp
                        · simp
                          omega
                      case measure => simp [intOf]; have := HT1.out; omega
                    · have hif : (if o < d.length - f then ([10, 10] : List UInt8) else []) = [] := by rw [if_neg (by omega)]
                      have Hif := Lib.hid hif
                      have hwT := HwT.out
                      have HP := Lib.hid (And.intro hg (And.intro hTf (And.intro hpl hpl2)))
                      have hPP : pre.length + pre2.length ≤ 400000 := by clear hwT; omega
                      have hf4 : f ≤ 4096 := by clear hwT; omega
                      have ho4 : o ≤ 4096 := by clear hwT; omega
                      have h0I : (d.length : Int) ≤ (f : Int) + (o : Int) := by clear hwT; omega
                      have hfo : wrap64 ((f : Int) + (o : Int)) = (f : Int) + (o : Int) := by clear hwT; exact IntWalk.wrap64_in _ ⟨by omega, by omega⟩
                      clear hif hg hTf hpl hpl2 hk hkR hcap hn0 hR1 hR2 hC1 hC2 hRC hT1 hm1 hlt k0 k1 hf
                      go_wp2_with fail
                      obtain ⟨hg, hTf, hpl, hpl2⟩ := HP.out
                      have hT1 := HT1.out
                      clear hwT hfo
                      go_roundw
                      case rel =>
                        refine ⟨f + o, g', pre ++ pre2, by omega, by go_num, ⟨t - 1, Htl2.out⟩, Hre2w.out, Hbl2.out, ?_, by omega, ?_⟩
                        · rw [Hstep.out, Hif.out]
                          simp
                        · simp
                          omega
                      case measure => simp [intOf]; have := HT1.out; omega
          · have hfe : f = d.length := by omega
            have hfin : tablesFrom R C rk d.length d = pre := by
              rw [Htx.out, drop_end (by omega)]
              cases g <;> simp [tablesFrom]
            have Hfin := Lib.hid hfin
            clear hfin hfe
            go_wp2_with fail
            refine (bld_String _ b b pre _ Hbl.out (Hre.out.size hB)).mono ?_
            rintro e w9 ⟨rfl, h1, h2, h3⟩
            have H9 := Lib.hid (Hkeep0.out _ (Hre.out.1.trans h2))
            clear h1 h2 h3
            go_wp2_with fail
            go_ret2
            exact ⟨text_ret (by rw [Ht.out, Hfin.out]) (by rw [← He.out]; exact (errV_zero _).symm), H9.out, by rw [Ht.out, Hfin.out]; omega⟩
  · have ht : numsText s d = [] := by unfold numsText; rw [if_pos (by rw [← He.out]; exact h0)]
    have Ht := Lib.hid ht
    rw [errV_ne h0] at hC
    have HC := Lib.hid hC
    clear ht hC
    go_enter Tryd.func17, Tryd.ntmps17
    go_wp2_with fail
    refine (HC.out _ (hbox _)).mono ?_
    rintro e1 w1 ⟨rfl, hb1⟩
    have Hb1 := Lib.hid ((hbox _).trans (hb1.mono (by simp)))
    clear hb1
    go_wp2_with fail
    go_ret2
    exact ⟨text_ret Ht.out (by rw [← He.out]; exact (errV_ne h0).symm), Hb1.out, by rw [Ht.out]; simp⟩
end Go.Proofs.YtbgjcadjkkddhaaDoor
