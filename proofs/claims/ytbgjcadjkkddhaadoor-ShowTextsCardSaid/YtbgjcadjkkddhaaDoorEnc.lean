/-
  ravelinref5.Encoded: a rune's bytes.
-/
import Derived.Test.YtbgjcadjkkddhaaDoorBase
import Derived.Test.YtbgjcadjkkddhaaDoorProg
import Derived.Lib.RuneBytes
namespace Go.Proofs.YtbgjcadjkkddhaaDoor
open Go.RowKit

def RuneOk (c : Int) : Prop := 0 ≤ c ∧ c ≤ 1114111 ∧ ¬ (55296 ≤ c ∧ c ≤ 57343)

theorem lit_cells (w : World) (zs : List Int) (hz : ∀ z ∈ zs, 0 ≤ z ∧ z < 256) (T : TypeId) :
    (convert 82 9 (.slice (some ⟨w.heap.size, 0, none⟩) zs.length zs.length)).run Tryd.prog (w.alloc (.cells (zs.map (Value.int .u8)).toArray T)) = .ok (.string ⟨(zs.map fun x => x.toNat.toUInt8).toArray⟩) (w.alloc (.cells (zs.map (Value.int .u8)).toArray T)) := by
  have h := run_convert_bytes_back (P := Tryd.prog) (w.alloc (.cells (zs.map (Value.int .u8)).toArray T)) 82 9 5 ⟨w.heap.size, 0, none⟩ zs.length (zs.map fun x => x.toNat.toUInt8) Tryd.underlying82 Tryd.underlying5 Tryd.underlying9 ?_
  · simpa using h
  · intro j hj
    have hj' : j < zs.length := by simpa using hj
    have ha : (⟨w.heap.size, 0, none⟩ : Addr).add j = ⟨w.heap.size, j, none⟩ := by unfold Addr.add; split <;> simp [*]
    have hb := hz _ (List.getElem_mem hj')
    rw [ha]
    have hh : (w.alloc (.cells (zs.map (Value.int .u8)).toArray T)).heap[w.heap.size]? = some (.cells (zs.map (Value.int .u8)).toArray T (0, 0)) := by
      show (w.heap.push _)[w.heap.size]? = _
      simp
    have e1 : (w.alloc (.cells (zs.map (Value.int .u8)).toArray T)).cell? ⟨w.heap.size, j, none⟩ = (zs.map (Value.int .u8))[j]? := by
      unfold World.cell?
      rw [hh]
      simp
    rw [e1, List.getElem?_eq_getElem (by simpa using hj'), List.getElem_map, List.getElem_map]
    refine congrArg some (int_eq ?_)
    have e2 : (zs[j].toNat.toUInt8).toNat = zs[j].toNat % 256 := by simp
    rw [e2]
    omega

set_option maxHeartbeats 1000000 in
set_option maxRecDepth 100000 in
theorem ref_Encoded (c : Int) (hc : RuneOk c) (w : World) : Calls Tryd.prog 75 #[.int .i64 c] w fun r w' => r = .returned (.string ⟨(Lib.encodeRune c).toArray⟩) ∧ Below w.heap.size w w' := by
  obtain ⟨h0, h1, h2⟩ := hc
  have hbyte := Lib.encodeRuneZ_byte c
  have hL := lit_cells w (Lib.encodeRuneZ c) hbyte 5
  go_enter Tryd.func75, Tryd.ntmps75
  by_cases g1 : c < 128
  · have e := Lib.encodeRuneZ_one h0 (by omega : c ≤ 127)
    rw [e] at hL
    simp at hL
    go_wp2_with fail
    go_ret
    refine ⟨ret_val (congrArg Value.string ?_), ?_⟩
    · unfold Lib.encodeRune; rw [e]; rfl
    · exact (Below.refl _ _).alloc (Nat.le_refl _) _
  · have t0 : ∀ k : Int, c.tdiv k = c / k := fun k => Int.tdiv_eq_ediv_of_nonneg h0
    by_cases g2 : c < 2048
    · have e := Lib.encodeRuneZ_two (by omega : 128 ≤ c) (by omega : c ≤ 2047)
      rw [e] at hL
      simp at hL
      go_wp2_with fail
      go_ret
      refine ⟨ret_val (congrArg Value.string ?_), ?_⟩
      · unfold Lib.encodeRune; rw [e]; rfl
      · exact (Below.refl _ _).alloc (Nat.le_refl _) _
    · by_cases g3 : c < 65536
      · have e := Lib.encodeRuneZ_three (by omega : (2048 ≤ c ∧ c < 55296) ∨ (57343 < c ∧ c ≤ 65535))
        rw [e] at hL
        simp at hL
        go_wp2_with fail
        go_ret
        refine ⟨ret_val (congrArg Value.string ?_), ?_⟩
        · unfold Lib.encodeRune; rw [e]; rfl
        · exact (Below.refl _ _).alloc (Nat.le_refl _) _
      · have e := Lib.encodeRuneZ_four (by omega : 65536 ≤ c) h1
        rw [e] at hL
        simp at hL
        go_wp2_with fail
        go_ret
        refine ⟨ret_val (congrArg Value.string ?_), ?_⟩
        · unfold Lib.encodeRune; rw [e]; rfl
        · exact (Below.refl _ _).alloc (Nat.le_refl _) _
end Go.Proofs.YtbgjcadjkkddhaaDoor
