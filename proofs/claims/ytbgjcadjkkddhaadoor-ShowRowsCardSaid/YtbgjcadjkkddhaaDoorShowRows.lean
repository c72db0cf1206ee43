/-
  The law ShowRows: for every array and every world it returns true and changes nothing that was there.
-/
import Derived.Test.YtbgjcadjkkddhaaDoorText
import Derived.Test.YtbgjcadjkkddhaaDoorRowsPlain
import Derived.Test.YtbgjcadjkkddhaaDoorRunes
import Derived.Test.YtbgjcadjkkddhaaDoorSame
namespace Go.Proofs.YtbgjcadjkkddhaaDoor
open Go.RowKit

theorem factText : numsText [2, 2] [1, 22, 333, 4] = [32, 32, 49, 32, 50, 50, 10, 51, 51, 51, 32, 32, 52] := by decide +kernel
theorem factCheck : checkF false [2, 2] [1, 22, 333, 4] = 0 := by decide

theorem IntsAt.lit {w : World} {g : Nat} {T : TypeId} {xs : List Int} (h : w.heap[g]? = some (.cells (xs.map (Value.int .i64)).toArray T (0, 0))) (hr : ∀ x ∈ xs, I64 x) (hm : xs.length ≤ 1099511627776) : IntsAt w (some ⟨g, 0, none⟩) xs.length xs := by
  refine ⟨Nat.le_refl _, by unfold maxLen; omega, fun _ => rfl, fun i x hx => ?_, hr⟩
  have ha : (⟨g, 0, none⟩ : Addr).add i = ⟨g, i, none⟩ := by unfold Addr.add; split <;> simp [*]
  show w.cell? ((⟨g, 0, none⟩ : Addr).add i) = _
  rw [ha]
  simp [World.cell?, h, hx]

theorem heap_new (w : World) (o : Obj) {k : Nat} (hk : k = w.heap.size) : (w.alloc o).heap[k]? = some o := by
  subst hk
  show (w.heap.push o)[w.heap.size]? = _
  simp
theorem heap_old {w : World} {k : Nat} {x : Obj} (o : Obj) (h : w.heap[k]? = some x) : (w.alloc o).heap[k]? = some x := by
  rw [Below.heap_alloc _ _ _ (Array.getElem?_eq_some_iff.1 h).1]; exact h

set_option maxHeartbeats 2000000 in
set_option maxRecDepth 100000 in
theorem law_ShowRows (ch : Bool) (p q : Option Addr) (c1 c2 : Nat) (s d : List Int) (w : World) (hs : IntsAt w p c1 s) (hd : IntsAt w q c2 d) (hG : Glob w) :
    Calls Tryd.prog 5 #[.agg #[.bool ch, .slice p s.length c1, .slice q d.length c2]] w fun e w' => e = .returned (.bool true) ∧ Below w.heap.size w w' := by
  have Hs := Lib.hid hs
  have Hd := Lib.hid hd
  have HG := Lib.hid hG
  have hm1 := len_max hs.le hs.max
  have hm2 := len_max hd.le hd.max
  clear hs hd hG
  go_enter Tryd.func5, Tryd.ntmps5
  go_wp2_with fail
  obtain ⟨W0, hW0⟩ : ∃ W, W = ((w.alloc (Obj.cells #[Value.bool ch, Value.slice p s.length c1, Value.slice q d.length c2] 25)).alloc (Obj.cells #[Value.int .i64 2, Value.int .i64 2] 3)).alloc (Obj.cells #[Value.int .i64 1, Value.int .i64 22, Value.int .i64 333, Value.int .i64 4] 3) := ⟨_, rfl⟩
  rw [← hW0]
  have hb0 : Below w.heap.size w W0 := by rw [hW0]; exact (((Below.refl _ _).alloc (Nat.le_refl _) _).alloc (by simp) _).alloc (by simp; omega) _
  have hx0 : W0.heap[w.heap.size]? = some (.cells #[Value.bool ch, Value.slice p s.length c1, Value.slice q d.length c2] 25 (0, 0)) := by
    rw [hW0]; exact heap_old _ (heap_old _ (heap_new _ _ rfl))
  have hx1 : W0.heap[w.heap.size + 1]? = some (.cells (([2, 2] : List Int).map (Value.int .i64)).toArray 3 (0, 0)) := by
    rw [hW0]; exact heap_old _ (heap_new _ _ (by simp))
  have hx2 : W0.heap[w.heap.size + 1 + 1]? = some (.cells (([1, 22, 333, 4] : List Int).map (Value.int .i64)).toArray 3 (0, 0)) := by
    rw [hW0]; exact heap_new _ _ (by simp)
  have hTX := show_Text_nums (some ⟨w.heap.size + 1, 0, none⟩) (some ⟨w.heap.size + 1 + 1, 0, none⟩) 2 4 [2, 2] [1, 22, 333, 4] W0
    (IntsAt.lit hx1 (by unfold I64; decide) (by decide)) (IntsAt.lit hx2 (by unfold I64; decide) (by decide)) (HG.out.below hb0 HG.out.lt)
  rw [factText, factCheck, errV_zero] at hTX
  have HTX := Lib.hid hTX
  have Hb0 := Lib.hid hb0
  have Hx0 := Lib.hid hx0
  clear hW0 hb0 hx0 hx1 hx2 hTX
  refine HTX.out.mono ?_
  rintro e w1 ⟨rfl, hb1, _⟩
  have hlt0 : w.heap.size < W0.heap.size := (Array.getElem?_eq_some_iff.1 Hx0.out).1
  have hx1 : w1.heap[w.heap.size]? = some (.cells #[Value.bool ch, Value.slice p s.length c1, Value.slice q d.length c2] 25 (0, 0)) := by
    rw [hb1.block _ hlt0]; exact Hx0.out
  have hcl : ∀ W, Below w1.heap.size w1 W → W.cell? ⟨w.heap.size, 0, none⟩ = some (.bool ch) ∧ W.cell? ⟨w.heap.size, 1, none⟩ = some (.slice p s.length c1) ∧ W.cell? ⟨w.heap.size, 2, none⟩ = some (.slice q d.length c2) := fun W h => by
    have h1 : W.heap[w.heap.size]? = some (.cells #[Value.bool ch, Value.slice p s.length c1, Value.slice q d.length c2] 25 (0, 0)) := by
      rw [h.block _ (Nat.lt_of_lt_of_le hlt0 hb1.size)]; exact hx1
    exact ⟨by simp [World.cell?, h1], by simp [World.cell?, h1], by simp [World.cell?, h1]⟩
  obtain ⟨k0, k1, k2⟩ := hcl w1 (Below.refl _ _)
  have Hb1 := Lib.hid (Hb0.out.trans (hb1.mono Hb0.out.size))
  have Hcl := Lib.hid hcl
  obtain ⟨a0, ha0⟩ : ∃ a, a = w.heap.size := ⟨_, rfl⟩
  rw [← ha0] at k0 k1 k2 Hcl ⊢
  have Ha0 := Lib.hid ha0
  clear hb1 hlt0 hx1 hcl ha0 HTX Hb0 Hx0
  go_wp2_with fail
  have hsd : IntsAt w1 p c1 s ∧ IntsAt w1 q c2 d := ⟨Hs.out.below Hb1.out, Hd.out.below Hb1.out⟩
  have hC := arr_Check ch p q c1 c2 s d w1 hsd.1 hsd.2
  by_cases he : checkF ch s d = 0
  · rw [he, errV_zero] at hC
    have HC := Lib.hid hC
    have He := Lib.hid he
    clear hC he hsd
    refine HC.out.mono ?_
    rintro e w2 ⟨rfl, hb2⟩
    obtain ⟨k0, k1, k2⟩ := Hcl.out w2 hb2
    have Hb2 := Lib.hid (Hb1.out.trans (hb2.mono Hb1.out.size))
    have Hb12 := Lib.hid hb2
    clear hb2 HC
    cases ch with
    | true =>
      go_wp2_with fail
      go_ret
      exact ⟨rfl, Hb2.out⟩
    | false =>
      by_cases hl : s.length = 2
      · by_cases hd0 : d.length = 0
        · have hd0' : ((d.length : Int) == 0) = true := by simp [hd0]
          have hl' : ((s.length : Int) != 2) = false := by simp [hl]
          have Hl := Lib.hid hl
          clear hl hd0
          go_wp2_with fail
          go_ret
          exact ⟨rfl, Hb2.out⟩
        · have hd0' : ((d.length : Int) == 0) = false := by simp; intro h; exact hd0 (by rw [h]; rfl)
          have hl' : ((s.length : Int) != 2) = false := by simp [hl]
          have Hl := Lib.hid hl
          have Hd0 := Lib.hid hd0
          clear hl hd0
          go_wp2_with fail
          have hT := show_Text_nums p q c1 c2 s d w2 (Hs.out.below Hb2.out) (Hd.out.below Hb2.out) (HG.out.below Hb2.out HG.out.lt)
          rw [He.out, errV_zero] at hT
          obtain ⟨x, hx, l0, h0, hscan, hend⟩ := table_straight Hl.out (fun e => Hd0.out (by rw [e]; rfl)) He.out
          obtain ⟨t, ht⟩ : ∃ t : ByteArray, t = ⟨(numsText s d).toArray⟩ := ⟨_, rfl⟩
          have htl : t.data.toList = numsText s d := by rw [ht]
          have hts : t.size = (numsText s d).length := by rw [ht]; simp [ByteArray.size]
          rw [← ht] at hT
          have HT := Lib.hid hT
          have Hx := Lib.hid hx
          have Htl := Lib.hid htl
          have Hts := Lib.hid hts
          have Hscan := Lib.hid hscan
          clear hT hx ht htl hts hscan
          refine HT.out.mono ?_
          rintro e w3 ⟨rfl, hb3, hlen⟩
          have hsz : t.size ≤ 192512 := by rw [Hts.out]; exact hlen
          have Hb13 := Lib.hid (Hb12.out.trans (hb3.mono Hb12.out.size))
          have Hb3 := Lib.hid (Hb2.out.trans (hb3.mono Hb2.out.size))
          clear hb3 hlen HT
          go_wp2_with fail
          refine (ref_Runes t w3 (by omega)).mono ?_
          rintro e w4 ⟨hb4, ⟨hno, _⟩ | ⟨x', px, cx, hx', rfl, hxi⟩⟩
          · rw [Htl.out, Hx.out] at hno; cases hno
          · have hxx : x' = x := by rw [Htl.out, Hx.out] at hx'; exact (Option.some.inj hx').symm
            subst hxx
            obtain ⟨k0, k1, k2⟩ := Hcl.out w4 (Hb13.out.trans (hb4.mono Hb13.out.size))
            have Hb4 := Lib.hid (Hb3.out.trans (hb4.mono Hb3.out.size))
            have hix := fun k hk => hxi.idx Tryd.underlying23 Tryd.sizeOf3 rfl .i64 k hk
            have hm3 : x'.length ≤ 192512 := by
              have := runes_len _ _ _ (Nat.le_refl _) Hx.out
              rw [← Hts.out] at this
              omega
            have Hxi := Lib.hid hxi
            have s0 := (Hs.out.below Hb4.out).get 0 (by rw [Hl.out]; omega)
            have i0 : ∀ W, (Instr.indexAt 23 (.slice p s.length c1) (.int .i64 0)).run Tryd.prog W = .ok (.pointer (some (addrAt p 0))) W := (Hs.out.below Hb4.out).idx Tryd.underlying23 Tryd.sizeOf3 rfl .i64 0 (by rw [Hl.out]; omega)
            obtain ⟨v0, hv0⟩ : ∃ v, v = s.getD 0 0 := ⟨_, rfl⟩
            rw [← hv0] at s0
            have Hscan2 : Hid (scan x' 1 (-1) 0 = some (v0, l0, h0)) := by rw [hv0]; exact Hscan.out
            have Hend := Lib.hid hend
            obtain ⟨n, hn⟩ : ∃ n, n = x'.length := ⟨_, rfl⟩
            rw [← hn] at hix hm3 ⊢
            have HN := Lib.hid hn
            clear hb4 hx' hxi hv0 hend hn Hscan
            go_wp2_with fail
            go_loop [12, 9, 10, 11] (fun i r l h => ∃ (k : Nat) (rr ll hh : Int), k ≤ n ∧ i = .int .i64 k ∧ r = .int .i64 rr ∧ l = .int .i64 ll ∧ h = .int .i64 hh ∧ some (v0, l0, h0) = scan (x'.drop k) rr ll hh ∧ 0 ≤ rr ∧ rr ≤ k + 1 ∧ -1 ≤ ll ∧ ll ≤ k ∧ 0 ≤ hh ∧ hh ≤ k) (fun i _ _ _ => n - (intOf i).toNat)
            case atStart => exact ⟨0, 1, -1, 0, by omega, rfl, rfl, rfl, rfl, by rw [← Hscan2.out]; rfl, by omega, by omega, by omega, by omega, by omega, by omega⟩
            case round =>
              obtain ⟨k, rr, ll, hh, hk, rfl, rfl, rfl, rfl, hsc, b1, b2, b3, b4, b5, b6⟩ := hrel
              have Hsc := Lib.hid hsc
              clear hsc
              by_cases hlt : k < n
              · have hix := hix k hlt
                have hks : k < x'.length := by rw [← HN.out]; exact hlt
                have hxk := Hxi.out.get k hks
                have hd := drop_getD hks
                obtain ⟨c, hc⟩ : ∃ c, c = x'.getD k 0 := ⟨_, rfl⟩
                rw [← hc] at hxk hd
                have hsc := Hsc.out
                rw [hd, scan] at hsc
                clear hd hks hc
                by_cases h10 : c = 10
                · have g10 : (c != 10) = false := by simp [h10]
                  rw [if_neg (by simp [h10])] at hsc
                  have hnot : ¬ (0 ≤ ll ∧ hh ≠ ll) := fun h => by rw [if_pos h] at hsc; cases hsc
                  rw [if_neg hnot] at hsc
                  have Hs2 := Lib.hid hsc
                  clear h10 hsc
                  by_cases g1 : 0 ≤ ll
                  · have g2 : (hh != ll) = false := by simp; exact Decidable.not_not.1 fun h => hnot ⟨g1, h⟩
                    clear hnot
                    go_wp2_with fail
                    go_round
                    case rel => exact ⟨k + 1, _, _, _, by omega, by go_num, rfl, rfl, rfl, Hs2.out, by omega, by omega, by omega, by omega, by omega, by omega⟩
                    case measure => simp [intOf]; omega
                  · clear hnot
                    go_wp2_with fail
                    go_round
                    case rel => exact ⟨k + 1, _, _, _, by omega, by go_num, rfl, rfl, rfl, Hs2.out, by omega, by omega, by omega, by omega, by omega, by omega⟩
                    case measure => simp [intOf]; omega
                · have g10 : (c != 10) = true := by simpa using h10
                  rw [if_pos h10] at hsc
                  have Hs2 := Lib.hid hsc
                  clear h10 hsc
                  go_wp2_with fail
                  go_round
                  case rel => exact ⟨k + 1, _, _, _, by omega, by go_num, rfl, rfl, rfl, Hs2.out, by omega, by omega, by omega, by omega, by omega, by omega⟩
                  case measure => simp [intOf]; omega
              · have hsc := Hsc.out
                rw [drop_end (by rw [← HN.out]; omega), scan] at hsc
                simp only [Option.some.injEq, Prod.mk.injEq] at hsc
                obtain ⟨e1, e2, e3⟩ := hsc
                subst e1 e2 e3
                have g0 : (v0 == v0) = true := by simp
                by_cases g1 : l0 < 0
                · go_wp2_with fail
                  go_ret
                  exact ⟨rfl, Hb4.out⟩
                · have g2 : (h0 == l0) = true := by
                    rcases Hend.out with h | h
                    · exact absurd h g1
                    · simp [h]
                  go_wp2_with fail
                  go_ret
                  exact ⟨rfl, Hb4.out⟩
      · have hl' : ((s.length : Int) != 2) = true := by simp; omega
        clear hl
        go_wp2_with fail
        go_ret
        exact ⟨rfl, Hb2.out⟩
  · rw [errV_ne he] at hC
    have HC := Lib.hid hC
    clear hC he hsd
    refine HC.out.mono ?_
    rintro e w2 ⟨rfl, hb2⟩
    have Hb2 := Lib.hid (Hb1.out.trans (hb2.mono Hb1.out.size))
    clear hb2 HC
    go_wp2_with fail
    go_ret
    exact ⟨rfl, Hb2.out⟩
end Go.Proofs.YtbgjcadjkkddhaaDoor
