/-
  show.widths: the widths of a table's columns.
-/
import Derived.Test.YtbgjcadjkkddhaaDoorShow
import Derived.Test.YtbgjcadjkkddhaaDoorQuiet
namespace Go.Proofs.YtbgjcadjkkddhaaDoor
open Go.RowKit

/-- block g is a row of the ints xs, nothing of it frozen -/
def RowI (w : World) (g : Nat) (xs : List Int) : Prop := w.heap[g]? = some (.cells (xs.map (Value.int .i64)).toArray 3 (0, 0))
theorem RowI.cell {w : World} {g : Nat} {xs : List Int} (h : RowI w g xs) (j : Nat) (hj : j < xs.length) : w.cell? ⟨g, j, none⟩ = some (.int .i64 (xs.getD j 0)) := by
  unfold RowI at h
  simp [World.cell?, h, hj]
theorem RowI.free {w : World} {g : Nat} {xs : List Int} (h : RowI w g xs) (j : Nat) : w.frozen? ⟨g, j, none⟩ = false := by
  unfold RowI at h
  simp [World.frozen?, h]
theorem RowI.set {w : World} {g : Nat} {xs : List Int} (h : RowI w g xs) (j : Nat) (x : Int) : RowI (w.setCell ⟨g, j, none⟩ (.int .i64 x)) g (xs.set j x) := by
  unfold RowI at *
  simp [World.setCell, Array.getElem?_modify, h, List.map_set]
theorem RowI.lt {w : World} {g : Nat} {xs : List Int} (h : RowI w g xs) : g < w.heap.size := (Array.getElem?_eq_some_iff.1 h).1
theorem RowI.below {w w' : World} {g : Nat} {xs : List Int} (h : RowI w g xs) (hb : Below w.heap.size w w') : RowI w' g xs := by
  have hl := h.lt
  unfold RowI at *
  rw [hb.block g hl]; exact h
theorem RowI.ints {w : World} {g : Nat} {xs : List Int} (h : RowI w g xs) (hr : ∀ x ∈ xs, I64 x) (hm : xs.length ≤ 1099511627776) : IntsAt w (some ⟨g, 0, none⟩) xs.length xs := by
  refine ⟨Nat.le_refl _, by unfold maxLen; omega, fun _ => rfl, fun i x hx => ?_, hr⟩
  have hi : i < xs.length := (List.getElem?_eq_some_iff.1 hx).1
  have ha : (⟨g, 0, none⟩ : Addr).add i = ⟨g, i, none⟩ := by unfold Addr.add; split <;> simp [*]
  show w.cell? ((⟨g, 0, none⟩ : Addr).add i) = _
  rw [ha, h.cell i hi, List.getD_eq_getElem?_getD, hx]; rfl
theorem RowI.reach {w W : World} {B b g : Nat} {xs : List Int} (h : RowI w g xs) (hr : Reach B b w W) (hg : g ≠ b) : RowI W g xs :=
  hr.2 g _ h (fun e => hg (Option.some.inj e)) (fun c fz e => by simp only [Obj.cells.injEq] at e; exact absurd e.2.1 (by decide))
theorem rowIdx {P : Program} {t e : TypeId} (ht : P.underlying t = some (.slice e)) (hz : ∀ w, (sizeOf e).run P w = .ok 1 w) (g n cap : Nat) (k : IntKind) (i : Nat) (hi : i < n) (w : World) :
    (Instr.indexAt t (.slice (some ⟨g, 0, none⟩) n cap) (.int k (i : Int))).run P w = .ok (.pointer (some ⟨g, i, none⟩)) w := by
  have ha : (⟨g, 0, none⟩ : Addr).add i = ⟨g, i, none⟩ := by unfold Addr.add; split <;> simp [*]
  have := idxAt ht hz (p := some ⟨g, 0, none⟩) (n := n) (cap := cap) rfl k i hi w
  rw [this]
  show Result.ok (Value.pointer (some ((⟨g, 0, none⟩ : Addr).add i))) w = _
  rw [ha]

theorem rowI_of_made {w : World} {B g n : Nat} (h : w.ownsRow B 3 1 (.slice (some ⟨g, 0, none⟩) n n) n (madeCells #[Value.int .i64 0] n).toList) : RowI w g (List.replicate n 0) := by
  rcases h.2 with ⟨h1, _⟩ | ⟨g', cap, cur, hv, _, hg, hn, _, hc, ht⟩
  · cases h1
  · simp only [Value.slice.injEq, Option.some.injEq, Addr.mk.injEq] at hv
    obtain ⟨⟨rfl, _⟩, _, rfl⟩ := hv
    unfold RowI
    rw [hg]
    have e1 : cur.toList = List.replicate n (Value.int .i64 0) := by
      rw [List.take_of_length_le (by simp [hc])] at ht
      rw [ht]
      exact toList_madeCells_one (Value.int .i64 0) n
    have e2 : cur = (List.replicate n (Value.int .i64 0)).toArray := by rw [← e1]
    rw [e2]
    simp

set_option maxHeartbeats 1000000 in
set_option maxRecDepth 100000 in
theorem show_widths (table : List Int) (p : Option Addr) (c cols : Nat) (w : World) (hT : IntsAt w p c table) (hc0 : 0 < cols) (hc1 : cols ≤ 4096) (hG : Glob w) :
    Calls Tryd.prog 38 #[.slice p table.length c, .int .i64 cols] w fun e w' => e = .returned (.slice (some ⟨w.heap.size, 0, none⟩) cols cols) ∧ RowI w' w.heap.size (widthsFrom cols 0 table (List.replicate cols 0)) ∧ Below w.heap.size w w' := by
  have hix := fun k hk => hT.idx Tryd.underlying23 Tryd.sizeOf3 rfl .i64 k hk
  have hm := len_max hT.le hT.max
  have HT := Lib.hid hT
  have HG := Lib.hid hG
  clear hT hG
  obtain ⟨n, hn⟩ : ∃ n, n = table.length := ⟨_, rfl⟩
  rw [← hn] at hix hm ⊢
  have HN := Lib.hid hn
  clear hn
  go_enter Tryd.func38, Tryd.ntmps38
  obtain ⟨i0, hi, hz0, hz1, hz2⟩ := info_parts infoInt
  go_wp2_with (at_make; go_must (refine wpList_make_full _ rfl _ _ 23 rfl w.heap.size 3 i0 (.int .i64 0) 1 Tryd.underlying23 hi hz0 hz1 .i64 .i64 _ _ cols rfl rfl rfl rfl (by rw [hz2]; omega) (by unfold maxLen; omega) (Nat.le_refl _) ?_))
  intro w1 hown hgr
  have hrow := rowI_of_made hown
  have hb1 := (Below.refl w.heap.size w).grown hgr (Nat.le_refl _) (fun k h => by cases h)
  have Hrow := Lib.hid hrow
  have Hb1 := Lib.hid hb1
  obtain ⟨g, hg⟩ : ∃ g, g = w.heap.size := ⟨_, rfl⟩
  rw [← hg] at Hrow ⊢
  have HGe := Lib.hid hg
  clear hown hgr hrow hb1 hg
  go_wp2_with fail
  go_loopw [12] (fun i wr => ∃ (k : Nat) (xs : List Int), k ≤ n ∧ i = .int .i64 k ∧ RowI wr g xs ∧ xs.length = cols ∧ Below w.heap.size w wr ∧ widthsFrom cols 0 table (List.replicate cols 0) = widthsFrom cols k (table.drop k) xs ∧ ∀ x ∈ xs, 0 ≤ x ∧ x ≤ 21) (fun i _ => n - (intOf i).toNat)
  case atStart => exact ⟨0, _, by omega, rfl, Hrow.out, by simp, Hb1.out, by simp, by intro x hx; rw [(List.mem_replicate.1 hx).2]; omega⟩
  case round =>
    obtain ⟨k, xs, hk, rfl, hr, hxl, hbel, hspec, hbd⟩ := hrel
    have Hr := Lib.hid hr
    have Hxl := Lib.hid hxl
    have Hbel := Lib.hid hbel
    have Hspec := Lib.hid hspec
    have Hbd := Lib.hid hbd
    clear hr hxl hbel hspec hbd
    by_cases hlt : k < n
    · have hix := hix k hlt
      have hks : k < table.length := by rw [← HN.out]; exact hlt
      have hT := HT.out.below Hbel.out
      have hxk := hT.get k hks
      have hd := drop_getD hks
      have hx := hT.rngD k hks
      obtain ⟨x, hxx⟩ : ∃ x, x = table.getD k 0 := ⟨_, rfl⟩
      rw [← hxx] at hxk hd hx
      have Hx := Lib.hid hx
      have Hd := Lib.hid hd
      clear hd hks hxx hx hT
      obtain ⟨j, hj⟩ : ∃ j, j = k % cols := ⟨_, rfl⟩
      have hjc : j < cols := by rw [hj]; exact Nat.mod_lt _ hc0
      have hjx : j < xs.length := by rw [Hxl.out]; exact hjc
      obtain ⟨old, hold⟩ : ∃ o, o = xs.getD j 0 := ⟨_, rfl⟩
      have ho : 0 ≤ old ∧ old ≤ 21 := by rw [hold]; exact Hbd.out _ (List.mem_of_getElem? (getD_some hjx))
      have hxw := numWidth_le Hx.out.1 Hx.out.2
      obtain ⟨t, ht⟩ : ∃ t : ByteArray, t = ⟨(numText x).toArray⟩ := ⟨_, rfl⟩
      have hts : t.size ≤ 22 := by rw [ht]; have := numText_length x; simp [ByteArray.size]; omega
      have Hj := Lib.hid hj
      have Hold := Lib.hid hold
      have Ht := Lib.hid ht
      have hfacts : ∀ W, Below wr.heap.size wr W → W.cell? ⟨g, j, none⟩ = some (.int .i64 old) ∧ W.frozen? ⟨g, j, none⟩ = false := fun W h => by
        have h1 := Hr.out.below h
        exact ⟨by rw [h1.cell j hjx, Hold.out], h1.free j⟩
      have NM : ∀ W, Below wr.heap.size wr W → Calls Tryd.prog 70 #[.int .i64 x] W fun e w' => e = .returned (.string t) ∧ Below wr.heap.size wr w' := fun W h => by
        have hG2 : Glob W := HG.out.below (Hbel.out.trans (h.mono Hbel.out.size)) HG.out.lt
        refine (show_number x Hx.out W hG2).mono ?_
        rintro e w' ⟨rfl, h2⟩
        exact ⟨by rw [Ht.out], h.trans (h2.mono h.size)⟩
      have RC : ∀ W, Below wr.heap.size wr W → Calls Tryd.prog 69 #[.string t] W fun e w' => e = .returned (.int .i64 (numWidth x)) ∧ Below wr.heap.size wr w' := fun W h => by
        refine (Tryd.utf8_RuneCountInString t W (by omega)).mono ?_
        rintro e w' ⟨rfl, pos, rfl⟩
        exact ⟨by rw [Ht.out, numText_count], Below.alloc h h.size _⟩
      have HNM := Lib.hid NM
      have HRC := Lib.hid RC
      have hcA := fun W h => (hfacts W h).1
      have hfA := fun W h => (hfacts W h).2
      have hmod : (k : Int).tmod (cols : Int) = (j : Int) := by rw [hj]; rfl
      have hmod2 : (k : Int) % (cols : Int) = (j : Int) := by rw [hj]; rfl
      have hwr : IntKind.i64.wrap (j : Int) = (j : Int) := IntWalk.i64_in _ ⟨by omega, by omega⟩
      have hidx := fun W => rowIdx (P := Tryd.prog) Tryd.underlying23 Tryd.sizeOf3 g cols cols .i64 j hjc W
      have hcz : ¬ cols = 0 := by omega
      have h2r : Below wr.heap.size wr wr.drew := (Below.refl _ _).drew
      clear hj hold ht hfacts NM RC hjx
      go_upto_region 5 with fail
      refine wp_region_quiet_tail (fun W => Below wr.heap.size wr W) 15 (by kernel_rfl) (by kernel_rfl) h2r ?_
      simp only [List.take_succ_cons, List.take_zero, List.drop_succ_cons, List.drop_zero]
      repeat (refine wpQuiet_val rfl ?_ (fun W (hW : Below wr.heap.size wr W) => ?_) ?_; rotate_left; (focus (go_simp; exact rfl)))
      refine wpQuiet_call rfl 70 #[.int .i64 x] (fun W (hW : Below wr.heap.size wr W) => by go_simp) (.string t) HNM.out ?_
      refine wpQuiet_call rfl 69 #[.string t] (fun W (hW : Below wr.heap.size wr W) => by go_simp) (.int .i64 (numWidth x)) HRC.out ?_
      repeat (refine wpQuiet_val rfl ?_ (fun W (hW : Below wr.heap.size wr W) => ?_) ?_; rotate_left; (focus (go_simp; exact rfl)))
      refine wpQuiet_nil (fun W hW => ?_)
      have hcW := hcA W hW
      have hfW := hfA W hW
      simp only [Act.put, List.setIfInBounds_toArray, List.set_cons_succ, List.set_cons_zero]
      go_wp2_with fail
      go_roundw
      case rel =>
        have h1 := (Hr.out.below hW).set j (max old (numWidth x : Int))
        refine ⟨k + 1, _, by omega, by go_num, h1, by simp [Hxl.out], ?_, ?_, ?_⟩
        · exact (Hbel.out.trans (hW.mono Hbel.out.size)).setCell (by rw [HGe.out]; exact Nat.le_refl _) _
        · rw [Hspec.out, Hd.out, widthsFrom, ← Hj.out, ← Hold.out]
        · intro z hz
          rcases List.mem_or_eq_of_mem_set hz with hz | hz
          · exact Hbd.out z hz
          · subst hz; omega
      case measure => simp [intOf]; omega
    · go_wp2_with fail
      go_ret
      refine ⟨ret_val (show Value.slice (some ⟨g, 0, none⟩) cols cols = _ by rw [HGe.out]), ?_, Hbel.out⟩
      rw [Hspec.out, drop_end (by rw [← HN.out]; omega), ← HGe.out]
      exact Hr.out
end Go.Proofs.YtbgjcadjkkddhaaDoor
