/-
  ravelinref5.shownCell: a cell's text.
-/
import Derived.Test.YtbgjcadjkkddhaaDoorNumeral
import Derived.Test.YtbgjcadjkkddhaaDoorEnc
import Derived.Test.YtbgjcadjkkddhaaDoorLong
import Derived.Test.YtbgjcadjkkddhaaDoorRowsPlain
namespace Go.Proofs.YtbgjcadjkkddhaaDoor
open Go.RowKit

set_option maxHeartbeats 1000000 in
set_option maxRecDepth 100000 in
theorem cell_char (sh : Value) (q : Option Addr) (cap : Nat) (d : List Int) (w : World) (hd : IntsAt w q cap d) (i : Nat) (hi : i < d.length) (hc : RuneOk (d.getD i 0)) (wide : Int) (first : Bool) :
    Calls Tryd.prog 47 #[.agg #[.bool true, sh, .slice q d.length cap], .int .i64 i, .int .i64 wide, .bool first] w fun r w' => r = .returned (.string ⟨(Lib.encodeRune (d.getD i 0)).toArray⟩) ∧ Below w.heap.size w w' := by
  have hE := fun W => ref_Encoded _ hc W
  have hm := len_max hd.le hd.max
  have hix := hd.idx Tryd.underlying23 Tryd.sizeOf3 rfl .i64 i hi
  have hb0 : Below w.heap.size w (w.alloc (Obj.cells #[.bool true, sh, .slice q d.length cap] 25)) := (Below.refl _ _).alloc (Nat.le_refl _) _
  have hg := (hd.below hb0).get i hi
  obtain ⟨x, hx⟩ : ∃ x, x = d.getD i 0 := ⟨_, rfl⟩
  rw [← hx] at hE hg hc ⊢
  have HB := Lib.hid hb0
  clear hx hd hb0
  go_enter Tryd.func47, Tryd.ntmps47
  go_wp2_with (go_at_call 75; refine (hE _).mono ?_; rintro r w' ⟨rfl, hb⟩)
  go_ret
  exact ⟨rfl, HB.out.trans (hb.mono HB.out.size)⟩
theorem runes_num (k : Nat) (x : Int) : ((runesL (List.replicate k 32 ++ numText x)).getD []).length = k + numWidth x := by
  obtain ⟨r, h1, h2, _⟩ := (Txt.list (List.replicate k 32) fun b hb => by rw [(List.mem_replicate.1 hb).2]; decide).append (Txt.num x)
  rw [h1, Option.getD_some, h2, List.length_replicate]

set_option maxHeartbeats 1000000 in
set_option maxRecDepth 100000 in
theorem cell_num (sh : Value) (q : Option Addr) (cap : Nat) (d : List Int) (w : World) (hd : IntsAt w q cap d) (i : Nat) (hi : i < d.length) (wide : Int) (hw : wide ≤ 21) (first : Bool) :
    Calls Tryd.prog 47 #[.agg #[.bool false, sh, .slice q d.length cap], .int .i64 i, .int .i64 wide, .bool first] w fun r w' => r = .returned (.string ⟨((if first then [] else [32]) ++ (List.replicate (wide - numWidth (d.getD i 0)).toNat 32 ++ numText (d.getD i 0))).toArray⟩) ∧ Below w.heap.size w w' := by
  have hr := hd.rngD i hi
  have hE := fun W => ref_Numeral _ hr W
  have hm := len_max hd.le hd.max
  have hix := hd.idx Tryd.underlying23 Tryd.sizeOf3 rfl .i64 i hi
  have hb0 : Below w.heap.size w (w.alloc (Obj.cells #[.bool false, sh, .slice q d.length cap] 25)) := (Below.refl _ _).alloc (Nat.le_refl _) _
  have hg := (hd.below hb0).get i hi
  obtain ⟨x, hx⟩ : ∃ x, x = d.getD i 0 := ⟨_, rfl⟩
  rw [← hx] at hE hg hr ⊢
  have HB := Lib.hid hb0
  clear hx hd hb0
  go_enter Tryd.func47, Tryd.ntmps47
  go_wp2_with (go_at_call 46; refine (hE _).mono ?_; rintro r w' ⟨rfl, hb⟩)
  have Hb := Lib.hid (HB.out.trans (hb.mono HB.out.size))
  clear hb HB hE hg hix
  have hN := numWidth_le hr.1 hr.2
  have hT := numText_length x
  have hrun := runes_num
  obtain ⟨nw, hnw⟩ : ∃ nw, nw = numWidth x := ⟨_, rfl⟩
  rw [← hnw] at hN hT
  have Hnw := Lib.hid hnw
  clear hnw hrun hm hi
  go_loopw [9] (fun t wr => ∃ (k : Nat), (k : Int) ≤ max 0 (wide - nw) ∧ t = .string ⟨(List.replicate k 32 ++ numText x).toArray⟩ ∧ Below w.heap.size w wr) (fun t _ => 100 - (match t with | .string s => s.size | _ => 0))
  case atStart => exact ⟨0, by omega, by simp, Hb.out⟩
  case round =>
    obtain ⟨k, hk, rfl, hbw⟩ := hrel
    have hsz : (ByteArray.mk (List.replicate k 32 ++ numText x).toArray).size = k + (numText x).length := by simp [ByteArray.size]
    have hL := ref_long ⟨(List.replicate k 32 ++ numText x).toArray⟩ wr (by rw [hsz]; omega)
    have hc : (((runesL (ByteArray.mk (List.replicate k 32 ++ numText x).toArray).data.toList).getD []).length : Nat) = k + nw := by rw [Hnw.out]; exact runes_num k x
    rw [hc] at hL
    have Hbw := Lib.hid hbw
    clear hbw hc
    by_cases hlt : ((k + nw : Nat) : Int) < wide
    · go_wp2_with (go_at_call 45; refine hL.mono ?_; rintro r w' ⟨rfl, hb⟩)
      refine ⟨⟨k + 1, by omega, congrArg Value.string ?_, Hbw.out.trans (hb.mono Hbw.out.size)⟩, ?_⟩
      · apply ByteArray.ext; simp [List.replicate_succ]
      · have e1 : (ByteArray.mk #[32] ++ ByteArray.mk (List.replicate k 32 ++ numText x).toArray).size = k + (numText x).length + 1 := by rw [ByteArray.size_append, hsz]; show 1 + _ = _; omega
        show 100 - (ByteArray.mk #[32] ++ ByteArray.mk (List.replicate k 32 ++ numText x).toArray).size < 100 - (ByteArray.mk (List.replicate k 32 ++ numText x).toArray).size
        rw [e1, hsz]; omega
    · have hk2 : (wide - (numWidth x : Int)).toNat = k := by rw [← Hnw.out]; omega
      have Hk2 := Lib.hid hk2
      clear hk2
      cases first
      · go_wp2_with (go_at_call 45; refine hL.mono ?_; rintro r w' ⟨rfl, hb⟩)
        go_ret
        refine ⟨ret_val (congrArg Value.string ?_), Hbw.out.trans (hb.mono Hbw.out.size)⟩
        apply ByteArray.ext
        have := Hk2.out
        simp at this ⊢
        rw [this]
      · go_wp2_with (go_at_call 45; refine hL.mono ?_; rintro r w' ⟨rfl, hb⟩)
        go_ret
        refine ⟨ret_val (congrArg Value.string ?_), Hbw.out.trans (hb.mono Hbw.out.size)⟩
        have := Hk2.out
        simp at this ⊢
        rw [this]
end Go.Proofs.YtbgjcadjkkddhaaDoor
