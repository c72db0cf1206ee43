/-
  ravelinref3: letters, names. (Cut out of XRefLet, XRefSpell.)
  The reference's view of a workspace: what is wrong with it.
  ravelinsame.Ints: of two slices that hold the same.
  ravelinsame.Array of two arrays that hold the same.
-/
import Derived.Test.YtllgkdkjcbohcaaGreatDoorZGo
import Derived.Test.YtllgkdkjcbohcaaGreatDoorZLex3
import Derived.Test.YtllgkdkjcbohcaaGreatDoorZInst
import Derived.Test.YtllgkdkjcbohcaaGreatDoorZEvI
import Derived.Test.YtllgkdkjcbohcaaGreatDoorZRefFlaw
import Derived.Test.YtllgkdkjcbohcaaGreatDoorZPerm
import Derived.Test.YtllgkdkjcbohcaaGreatDoorZOpenArr
import Derived.Test.YtllgkdkjcbohcaaGreatDoorZTokRow
namespace Go.Proofs.YtllgkdkjcbohcaaGreatDoor
open Go.RowKit
theorem ref_isDigit (b : UInt8) (w : World) : Calls Tryz.prog 192 #[.int .u8 (b.toNat : Int)] w fun e w' => e = .returned (.bool (isDigitB b)) ∧ Below w.heap.size w w' := by
  refine enter (args := [_]) (m := []) (F := []) Tryz.func192 rfl Tryz.ntmps192 (by simp) rfl ?_
  (repeat' (first|refine zza ?_|refine zc9 ?_|refine zzb fun w hw => ?_|refine zzh fun _ => ?_|refine zzi fun _ _ => ?_|refine zzj (fun _ => ?_) fun _ => ?_))
  all_goals (refine ⟨congrArg (fun b => Ending.returned (.bool b)) ?_, hw.below⟩; rw [Bool.eq_iff_iff]; simp [isDigitB]; try omega)
theorem ref_isLetter (b : UInt8) (w : World) : Calls Tryz.prog 114 #[.int .u8 (b.toNat : Int)] w fun e w' => e = .returned (.bool (isLetterB b)) ∧ Below w.heap.size w w' := by
  refine enter (args := [_]) (m := []) (F := []) Tryz.func114 rfl Tryz.ntmps114 (by simp) rfl ?_
  (repeat' (first|refine zza ?_|refine zc9 ?_|refine zzb fun w hw => ?_|refine zzh fun _ => ?_|refine zzi fun _ _ => ?_|refine zzj (fun _ => ?_) fun _ => ?_))
  all_goals (refine ⟨congrArg (fun b => Ending.returned (.bool b)) ?_, hw.below⟩; rw [Bool.eq_iff_iff]; simp [isLetterB]; try omega)
theorem ref_isPart (b : UInt8) (w : World) : Calls Tryz.prog 115 #[.int .u8 (b.toNat : Int)] w fun e w' => e = .returned (.bool (isPartB b)) ∧ Below w.heap.size w w' := by
  refine enter (args := [_]) (m := []) (F := []) Tryz.func115 rfl Tryz.ntmps115 (by simp) rfl ?_
  (repeat' (first|refine zza ?_|refine zc9 ?_|refine zzb fun w hw => ?_|refine zzh fun _ => ?_|refine zzi fun _ _ => ?_|refine zzj (fun _ => ?_) fun _ => ?_))
  (apply WL_callV; rfl; rfl; rfl; (intro W hW; exact ref_isLetter b W))
  cases hl : isLetterB b with
  | true =>
    (repeat' (first|refine zza ?_|refine zc9 ?_|refine zzb fun w hw => ?_|refine zzh fun _ => ?_|refine zzi fun _ _ => ?_|refine zzj (fun _ => ?_) fun _ => ?_))
    exact ⟨by simp [isPartB, hl], hw.below⟩
  | false =>
    (repeat' (first|refine zza ?_|refine zc9 ?_|refine zzb fun w hw => ?_|refine zzh fun _ => ?_|refine zzi fun _ _ => ?_|refine zzj (fun _ => ?_) fun _ => ?_))
    (apply WL_callV; rfl; rfl; rfl; (intro W hW; exact ref_isDigit b W))
    cases hd : isDigitB b with
    | true =>
      (repeat' (first|refine zza ?_|refine zc9 ?_|refine zzb fun w hw => ?_|refine zzh fun _ => ?_|refine zzi fun _ _ => ?_|refine zzj (fun _ => ?_) fun _ => ?_))
      exact ⟨by simp [isPartB, hl, hd], hw.below⟩
    | false =>
      (repeat' (first|refine zza ?_|refine zc9 ?_|refine zzb fun w hw => ?_|refine zzh fun _ => ?_|refine zzi fun _ _ => ?_|refine zzj (fun _ => ?_) fun _ => ?_))
      refine ⟨congrArg (fun b => Ending.returned (.bool b)) ?_, hw.below⟩; rw [Bool.eq_iff_iff]; simp [isPartB, hl, hd]; try omega
theorem ref_NameFault (s : List UInt8) (hl : s.length ≤ 4294967280) (w : World) : Calls Tryz.prog 62 #[.string ⟨s.toArray⟩] w fun e w' => e = .returned (.int .i64 (nameF s)) ∧ Below w.heap.size w w' := by
  by_cases h0 : s = []
  · subst h0
    refine enter (args := [_]) (m := []) (F := []) Tryz.func62 rfl Tryz.ntmps62 (by simp) rfl ?_
    (repeat' (first|refine zza ?_|refine zc9 ?_|refine zzb fun w hw => ?_|refine zzh fun _ => ?_|refine zzi fun _ _ => ?_|refine zzj (fun _ => ?_) fun _ => ?_))
    exact ⟨rfl, hw.below⟩
  have hpos : 0 < s.length := List.length_pos_iff.2 h0
  refine enter (args := [_]) (m := []) (F := []) Tryz.func62 rfl Tryz.ntmps62 (by simp) rfl ?_
  (repeat' (first|refine zza ?_|refine zc9 ?_|refine zzb fun w hw => ?_|refine zzh fun _ => ?_|refine zzi fun _ _ => ?_|refine zzj (fun _ => ?_) fun _ => ?_))
  (apply WL_callV; rfl; rfl; rfl; (intro W hW; exact ref_isLetter _ W))
  cases hL : isLetterB (s.getD 0 0) with
  | false =>
    (repeat' (first|refine zza ?_|refine zc9 ?_|refine zzb fun w hw => ?_|refine zzh fun _ => ?_|refine zzi fun _ _ => ?_|refine zzj (fun _ => ?_) fun _ => ?_))
    exact ⟨by unfold nameF; rw [if_pos (.inr (by rw [hL]; simp))], hw.below⟩
  | true =>
    have hn : nameF s = if s.all isPartB = false then 1 else if 12 < s.length then 7 else 0 := by unfold nameF; rw [if_neg (fun h => h.elim h0 fun k => k hL)]
    (repeat' (first|refine zza ?_|refine zc9 ?_|refine zzb fun w hw => ?_|refine zzh fun _ => ?_|refine zzi fun _ _ => ?_|refine zzj (fun _ => ?_) fun _ => ?_))
    refine CW_loopP [(0,_)] zcov (fun x : Nat => [(3, .int .i64 x)]) (fun x => x ≤ s.length ∧ s.all isPartB = (s.drop x).all isPartB) (fun x => s.length - x) 0 ⟨Nat.zero_le _, rfl⟩ zcov ?_
    rintro k ⟨hk, hz⟩
    by_cases hlt : k < s.length
    · rw [drop_cons (get_some hlt 0), List.all_cons] at hz
      (repeat' (first|refine zza ?_|refine zc9 ?_|refine zzb fun w hw => ?_|refine zzh fun _ => ?_|refine zzi fun _ _ => ?_|refine zzj (fun _ => ?_) fun _ => ?_))
      (apply WL_callV; rfl; rfl; rfl; (intro W hW; exact ref_isPart _ W))
      cases hp : isPartB (s.getD k 0) with
      | false =>
        rw [hp] at hz
        (repeat' (first|refine zza ?_|refine zc9 ?_|refine zzb fun w hw => ?_|refine zzh fun _ => ?_|refine zzi fun _ _ => ?_|refine zzj (fun _ => ?_) fun _ => ?_))
        exact ⟨by rw [hn, if_pos (by simpa using hz)], hw.below⟩
      | true =>
        rw [hp, Bool.true_and] at hz
        (repeat' (first|refine zza ?_|refine zc9 ?_|refine zzb fun w hw => ?_|refine zzh fun _ => ?_|refine zzi fun _ _ => ?_|refine zzj (fun _ => ?_) fun _ => ?_))
        (refine EX_loop' (k + 1) ?_; (repeat' (first | exact Cov.nil | exact Ent.refl | (apply And.intro) | (apply Cov.cons; rfl) | exact Ent.nil | refine zn1 ?_ | trivial | rfl | assumption | omega | (congr 1; omega))))
    · have hkl : k = s.length := by omega
      subst hkl
      rw [List.drop_length, List.all_nil] at hz
      rw [if_neg (by rw [hz]; simp)] at hn
      by_cases hb : 12 < s.length
      · rw [if_pos hb] at hn
        (repeat' (first|refine zza ?_|refine zc9 ?_|refine zzb fun w hw => ?_|refine zzh fun _ => ?_|refine zzi fun _ _ => ?_|refine zzj (fun _ => ?_) fun _ => ?_))
        exact ⟨by rw [hn], hw.below⟩
      · rw [if_neg hb] at hn
        (repeat' (first|refine zza ?_|refine zc9 ?_|refine zzb fun w hw => ?_|refine zzh fun _ => ?_|refine zzi fun _ _ => ?_|refine zzj (fun _ => ?_) fun _ => ?_))
        exact ⟨by rw [hn], hw.below⟩
end Go.Proofs.YtllgkdkjcbohcaaGreatDoor
namespace Go.Proofs.YtllgkdkjcbohcaaGreatDoor
open Go.RowKit
theorem rd_rowSp {K : Cx} {m r : List HP} {G : Rd} {α : Type} {enc : α → List Value} {sz c i off : Nat} {p : Option Addr} {xs : List α} {u : α} (cs : List Value) (hR : Row enc sz G p c xs) (hp : Pick m (ro K.w0 K.F G) r) (hu : xs[i]? = some u) (hc : ∀ j v, cs[j]? = some v → (enc u)[off + j]? = some v) : RdC K m ((addrAt p (i * sz)).add off) cs :=
  rd_G hp fun j v hj => by
    rw [Go.Deep.add_add]
    exact hR.cell i u hu (off + j) v (hc j v hj)
set_option maxHeartbeats 4000000 in
set_option maxRecDepth 100000 in
theorem ref_SpaceFault (p : Option Addr) (c : Nat) (ws : List BindM) (w : World) (hR : Row bindE 4 w.cell? p c ws) (hB : ∀ b ∈ ws, BindG w.cell? b) :
    Calls Tryz.prog 36 #[.slice p ws.length c] w fun e w' => e = .returned (.int .i64 (spaceF (ws.map BindM.bnd))) ∧ Below w.heap.size w w' := by
  have hlen := hR.len
  refine enterR (G := w.cell?) (args := [_]) (m := []) (Rd.sub_cell w) rfl Tryz.func36 rfl Tryz.ntmps36 (by simp) ?_
  by_cases h20 : (20 : Int) < (ws.length : Int)
  · have hs : spaceF (ws.map BindM.bnd) = 7 := by unfold spaceF; rw [if_pos (by simp; omega)]
    rw [hs]
    (repeat' (first|refine zza ?_|refine zc9 ?_|refine zzb fun w hw => ?_|refine zzh fun _ => ?_|refine zzi fun _ _ => ?_|refine zzj (fun _ => ?_) fun _ => ?_))
    exact ⟨rfl, hw.below⟩
  have hs : spaceF (ws.map BindM.bnd) = spaceG [] (ws.map BindM.bnd) := by unfold spaceF; rw [if_neg (by simp; omega)]
  rw [hs]
  clear hs
  obtain ⟨Z, hZ⟩ : ∃ Z, spaceG [] (ws.map BindM.bnd) = Z := ⟨_, rfl⟩
  rw [hZ]
  (repeat' (first|refine zza ?_|refine zc9 ?_|refine zzb fun w hw => ?_|refine zzh fun _ => ?_|refine zzi fun _ _ => ?_|refine zzj (fun _ => ?_) fun _ => ?_))
  refine CW_loopK [(0,_)] zcov (fun x : Nat => [(3, .int .i64 x)]) (fun _ => [ro w [] w.cell?]) (fun x => x ≤ ws.length ∧ spaceG ((ws.take x).map (·.name)) ((ws.drop x).map BindM.bnd) = Z) (fun x => ws.length - x) 0 ⟨Nat.zero_le _, hZ⟩ zcov zent ?_
  rintro k ⟨hk, hz⟩
  by_cases hlt : k < ws.length
  · obtain ⟨x, hx⟩ : ∃ x, ws[k]? = some x := ⟨ws[k], by simp [hlt]⟩
    rw [space_step hx] at hz
    have hb := hB x (List.mem_of_getElem? hx)
    clear hZ
    (repeat' (first|refine zza ?_|refine zc9 ?_|refine zzb fun w hw => ?_|refine zzh fun _ => ?_|refine zzi fun _ _ => ?_|refine zzj (fun _ => ?_) fun _ => ?_))
    (apply WL_callV; rfl; rfl; rfl; (intro W hW; exact ref_NameFault x.name hb.name W))
    by_cases hn : nameF x.name = 0
    · rw [if_neg (fun h => h hn)] at hz
      rw [hn]
      (repeat' (first|refine zza ?_|refine zc9 ?_|refine zzb fun w hw => ?_|refine zzh fun _ => ?_|refine zzi fun _ _ => ?_|refine zzj (fun _ => ?_) fun _ => ?_))
      refine CW_loopK [(0,_),(3,_)] zcov (fun j : Nat => [(5, .int .i64 j)]) (fun _ => [ro w [] w.cell?]) (fun j => j ≤ k ∧ ∀ y ∈ (ws.take j).map (·.name), y ≠ x.name) (fun j => k - j) 0 ⟨Nat.zero_le _, by simp⟩ zcov zent ?_
      rintro j ⟨hj, hno⟩
      by_cases hjk : j < k
      · obtain ⟨u, hu⟩ : ∃ u, ws[j]? = some u := ⟨ws[j], by simp⟩
        have htk : (ws.take (j + 1)).map (·.name) = (ws.take j).map (·.name) ++ [u.name] := by rw [List.take_add_one, hu]; simp
        by_cases he : u.name = x.name
        · have hmem : x.name ∈ (ws.take k).map (·.name) := by
            refine List.mem_map.2 ⟨u, ?_, he⟩
            exact List.mem_of_getElem? (i := j) (by rw [List.getElem?_take, if_pos hjk]; exact hu)
          rw [if_pos hmem] at hz
          subst hz
          (repeat' (first|refine zza ?_|refine zc9 ?_|refine zzb fun w hw => ?_|refine zzh fun _ => ?_|refine zzi fun _ _ => ?_|refine zzj (fun _ => ?_) fun _ => ?_))
          exact ⟨rfl, hw.below⟩
        · (repeat' (first|refine zza ?_|refine zc9 ?_|refine zzb fun w hw => ?_|refine zzh fun _ => ?_|refine zzi fun _ _ => ?_|refine zzj (fun _ => ?_) fun _ => ?_))
          refine EX_loop' (j + 1) ⟨zcov, zent, by omega, by omega, ?_⟩
          intro y hy
          rw [htk] at hy
          rcases List.mem_append.1 hy with h | h
          · exact hno y h
          · rw [List.mem_singleton.1 h]; exact he
      · have hjk' : j = k := by omega
        subst hjk'
        rw [if_neg (fun h => hno _ h rfl)] at hz
        (repeat' (first|refine zza ?_|refine zc9 ?_|refine zzb fun w hw => ?_|refine zzh fun _ => ?_|refine zzi fun _ _ => ?_|refine zzj (fun _ => ?_) fun _ => ?_))
        refine WL_op rfl rfl (y_loadA (zs := [.bool false, .slice none 0 0, .slice none 0 0]) rfl (rd_rowSp (off := 1) [.bool x.char, .slice x.shape.p x.shape.xs.length x.shape.c, .slice x.data.p x.data.xs.length x.data.c] hR zpk hx (fun j x h => by rw [Nat.add_comm]; exact h)) rfl) ?_
        (apply WL_callV; rfl; rfl; rfl; (intro W hW; exact ref_Flaw x.char x.shape.p x.data.p x.shape.c x.data.c x.shape.xs x.data.xs W (ints_row (hb.shape.mono (hW.le .here)) hb.shapeR) (ints_row (hb.data.mono (hW.le .here)) hb.dataR)))
        by_cases hc : checkF x.char x.shape.xs x.data.xs = 0
        · rw [if_neg (fun h => h hc)] at hz
          rw [hc]
          (repeat' (first|refine zza ?_|refine zc9 ?_|refine zzb fun w hw => ?_|refine zzh fun _ => ?_|refine zzi fun _ _ => ?_|refine zzj (fun _ => ?_) fun _ => ?_))
          exact EX_loop' (j + 1) ⟨zcov, zent, by omega, by omega, hz⟩
        · rw [if_pos hc] at hz
          subst hz
          (repeat' (first|refine zza ?_|refine zc9 ?_|refine zzb fun w hw => ?_|refine zzh fun _ => ?_|refine zzi fun _ _ => ?_|refine zzj (fun _ => ?_) fun _ => ?_))
          exact ⟨rfl, hw.below⟩
    · rw [if_pos hn] at hz
      subst hz
      (repeat' (first|refine zza ?_|refine zc9 ?_|refine zzb fun w hw => ?_|refine zzh fun _ => ?_|refine zzi fun _ _ => ?_|refine zzj (fun _ => ?_) fun _ => ?_))
      exact ⟨rfl, hw.below⟩
  · have hkl : k = ws.length := by omega
    subst hkl
    rw [List.drop_length] at hz
    have hz0 : Z = 0 := hz.symm
    subst hz0
    (repeat' (first|refine zza ?_|refine zc9 ?_|refine zzb fun w hw => ?_|refine zzh fun _ => ?_|refine zzi fun _ _ => ?_|refine zzj (fun _ => ?_) fun _ => ?_))
    exact ⟨rfl, hw.below⟩
end Go.Proofs.YtllgkdkjcbohcaaGreatDoor
namespace Go.Proofs.YtllgkdkjcbohcaaGreatDoor
open Go.RowKit
end Go.Proofs.YtllgkdkjcbohcaaGreatDoor
namespace Go.Proofs.YtllgkdkjcbohcaaGreatDoor
open Go.RowKit
set_option maxRecDepth 100000 in
theorem same_Ints (p q : Option Addr) (c d n : Nat) (xs : List Int) (hn : xs.length = n) (w : World) (hx : Row encI 1 w.cell? p c xs) (hy : Row encI 1 w.cell? q d xs) :
    Calls Tryz.prog 48 #[.slice p n c, .slice q n d] w fun e w' => e = .returned (.bool true) ∧ Below w.heap.size w w' := by
  subst hn
  have hlen := hx.len
  refine enterR (G := w.cell?) (args := [_, _]) (m := []) (Rd.sub_cell w) rfl Tryz.func48 rfl Tryz.ntmps48 (by simp) ?_
  (repeat' (first|refine zza ?_|refine zc9 ?_|refine zzb fun w hw => ?_|refine zzh fun _ => ?_|refine zzi fun _ _ => ?_|refine zzj (fun _ => ?_) fun _ => ?_))
  refine CW_loopK [(0,_),(1,_)] zcov (fun x : Nat => [(5, .int .i64 x)]) (fun _ => [ro w [] w.cell?]) (fun x => x ≤ xs.length) (fun x => xs.length - x) 0 (Nat.zero_le _) zcov zent ?_
  rintro k hk
  by_cases hlt : k < xs.length
  · obtain ⟨u, hu⟩ : ∃ u, xs[k]? = some u := ⟨xs[k], by simp [hlt]⟩
    have hnn : ¬ u ≠ u := fun h => h rfl
    (repeat' (first|refine zza ?_|refine zc9 ?_|refine zzb fun w hw => ?_|refine zzh fun _ => ?_|refine zzi fun _ _ => ?_|refine zzj (fun _ => ?_) fun _ => ?_))
    apply WQ_op rfl rfl (y_load rfl (rd_row (enc := encI) hx zpk hu))
    (repeat' (first|refine zza ?_|refine zc9 ?_|refine zzb fun w hw => ?_|refine zzh fun _ => ?_|refine zzi fun _ _ => ?_|refine zzj (fun _ => ?_) fun _ => ?_))
    apply WQ_op rfl rfl (y_load rfl (rd_row (enc := encI) hy zpk hu))
    (repeat' (first|refine zza ?_|refine zc9 ?_|refine zzb fun w hw => ?_|refine zzh fun _ => ?_|refine zzi fun _ _ => ?_|refine zzj (fun _ => ?_) fun _ => ?_))
    exact EX_loop' (k + 1) ⟨zcov, zent, by omega, by omega⟩
  · have hkl : k = xs.length := by omega
    subst hkl
    (repeat' (first|refine zza ?_|refine zc9 ?_|refine zzb fun w hw => ?_|refine zzh fun _ => ?_|refine zzi fun _ _ => ?_|refine zzj (fun _ => ?_) fun _ => ?_))
    exact ⟨rfl, hw.below⟩
end Go.Proofs.YtllgkdkjcbohcaaGreatDoor
namespace Go.Proofs.YtllgkdkjcbohcaaGreatDoor
open Go.RowKit
set_option maxRecDepth 100000 in
theorem same_Array (ch : Bool) (s d s' d' : SlV Int) (w : World) (hs : Row encI 1 w.cell? s.p s.c s.xs) (hd : Row encI 1 w.cell? d.p d.c d.xs) (hs' : Row encI 1 w.cell? s'.p s'.c s'.xs) (hd' : Row encI 1 w.cell? d'.p d'.c d'.xs) (e1 : s'.xs = s.xs) (e2 : d'.xs = d.xs) :
    Calls Tryz.prog 24 #[.agg #[.bool ch, .slice s.p s.xs.length s.c, .slice d.p d.xs.length d.c], .agg #[.bool ch, .slice s'.p s'.xs.length s'.c, .slice d'.p d'.xs.length d'.c]] w fun e w' => e = .returned (.bool true) ∧ Below w.heap.size w w' := by
  rw [e1] at hs'
  rw [e2] at hd'
  rw [e1, e2]
  have hnn : ¬ ch ≠ ch := fun h => h rfl
  refine enterR (G := w.cell?) (args := [_, _]) (m := []) (Rd.sub_cell w) rfl Tryz.func24 rfl Tryz.ntmps24 (by simp) ?_
  (repeat' (first|refine zza ?_|refine zc9 ?_|refine zzb fun w hw => ?_|refine zzh fun _ => ?_|refine zzi fun _ _ => ?_|refine zzj (fun _ => ?_) fun _ => ?_))
  (apply WL_callV; rfl; rfl; rfl; (intro W hW; exact same_Ints s.p s'.p s.c s'.c s.xs.length s.xs rfl W (hs.mono (hW.le (.there (.there .here)))) (hs'.mono (hW.le (.there (.there .here))))))
  (repeat' (first|refine zza ?_|refine zc9 ?_|refine zzb fun w hw => ?_|refine zzh fun _ => ?_|refine zzi fun _ _ => ?_|refine zzj (fun _ => ?_) fun _ => ?_))
  (apply WL_callV; rfl; rfl; rfl; (intro W hW; exact same_Ints d.p d'.p d.c d'.c d.xs.length d.xs rfl W (hd.mono (hW.le (.there (.there .here)))) (hd'.mono (hW.le (.there (.there .here))))))
  (repeat' (first|refine zza ?_|refine zc9 ?_|refine zzb fun w hw => ?_|refine zzh fun _ => ?_|refine zzi fun _ _ => ?_|refine zzj (fun _ => ?_) fun _ => ?_))
  exact ⟨rfl, hw.below⟩
end Go.Proofs.YtllgkdkjcbohcaaGreatDoor
