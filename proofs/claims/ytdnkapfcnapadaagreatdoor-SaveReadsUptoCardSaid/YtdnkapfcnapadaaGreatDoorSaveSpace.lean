/-
  eval.Check: what is wrong with a workspace.
-/
import Derived.Test.YtdnkapfcnapadaaGreatDoorGo
import Derived.Test.YtdnkapfcnapadaaGreatDoorOpenBind
import Derived.Test.YtdnkapfcnapadaaGreatDoorBitL
import Derived.Test.YtdnkapfcnapadaaGreatDoorRetC
import Derived.Test.YtdnkapfcnapadaaGreatDoorTokRow
import Derived.Test.YtdnkapfcnapadaaGreatDoorShape
import Derived.Test.YtdnkapfcnapadaaGreatDoorSpell
namespace Go.Proofs.YtdnkapfcnapadaaGreatDoor
open Go.RowKit

/-- what a workspace's names and values hold -/
structure BindG (G : Rd) (b : BindM) : Prop where
  name : b.name.length ≤ 4294967280
  shape : Row encI 1 G b.shape.p b.shape.c b.shape.xs
  data : Row encI 1 G b.data.p b.data.c b.data.xs
  shapeR : ∀ n ∈ b.shape.xs, I64 n
  dataR : ∀ n ∈ b.data.xs, I64 n
theorem BindG.mono {G G' : Rd} {b : BindM} (h : BindG G b) (hl : Rd.le G G') : BindG G' b := ⟨h.name, h.shape.mono hl, h.data.mono hl, h.shapeR, h.dataR⟩
theorem ints_row {w : World} {p : Option Addr} {c : Nat} {xs : List Int} (h : Row encI 1 w.cell? p c xs) (hr : ∀ n ∈ xs, I64 n) : IntsAt w p c xs :=
  ⟨h.le, h.max, h.some', fun i x hx => by
    have := h.cell i x hx 0 _ rfl
    rw [Nat.mul_one, add_zero] at this
    exact this, hr⟩
def namesK (ws : List BindM) : List (List UInt8 × Int) := (ws.map (·.name)).zipIdx.map fun q => (q.1, (q.2 : Int))
theorem namesK_fst (ws : List BindM) : (namesK ws).map Prod.fst = ws.map (·.name) := by
  unfold namesK
  rw [List.map_map]
  have : (Prod.fst ∘ fun q : List UInt8 × Nat => (q.1, (q.2 : Int))) = Prod.fst := rfl
  rw [this]
  exact List.zipIdx_map_fst _ _
theorem namesK_snoc {ws : List BindM} {k : Nat} {b : BindM} (h : ws[k]? = some b) : namesK (ws.take (k + 1)) = namesK (ws.take k) ++ [(b.name, (k : Int))] := by
  have hk : k < ws.length := (List.getElem?_eq_some_iff.1 h).1
  unfold namesK
  rw [List.take_add_one, h]
  simp [List.zipIdx_append]
  omega
theorem hasK_names (ws : List BindM) (l : List UInt8) : hasK (namesK ws) l = decide (l ∈ ws.map (·.name)) := by
  rw [Bool.eq_iff_iff, hasK_iff, namesK_fst]; simp
theorem space_step {ws : List BindM} {k : Nat} {b : BindM} (h : ws[k]? = some b) : spaceG ((ws.take k).map (·.name)) ((ws.drop k).map BindM.bnd) =
    if nameF b.name ≠ 0 then 1 else if b.name ∈ (ws.take k).map (·.name) then 9 else if checkF b.char b.shape.xs b.data.xs ≠ 0 then checkF b.char b.shape.xs b.data.xs else spaceG ((ws.take (k + 1)).map (·.name)) ((ws.drop (k + 1)).map BindM.bnd) := by
  rw [drop_cons h, List.map_cons, spaceG]
  have e : (ws.take (k + 1)).map (·.name) = (ws.take k).map (·.name) ++ [b.name] := by rw [List.take_add_one, h]; simp
  rw [e]
  rfl
theorem spell_name (l : List UInt8) : (spellF [⟨3, 0, 0, l, 0⟩]).2 = nameF l := by
  have hb : badTok ⟨3, 0, 0, l, 0⟩ = false := by simp [badTok]
  have hs : speltF ⟨3, 0, 0, l, 0⟩ = (l, nameF l) := by
    unfold speltF
    rw [hb]
    rfl
  unfold spellF
  rw [if_neg (by simp)]
  simp only [errF, hs]
  by_cases h : nameF l = 0
  · rw [if_pos h, if_neg (by simp)]
    have h1 : Lib.join (textsF [⟨3, 0, 0, l, 0⟩]) [32] = l := by unfold textsF; simp [hs, Lib.join]
    rw [h1, if_neg (by have := nameF_len h; omega)]
    exact h.symm
  · rw [if_neg h, if_pos h]
instance mapStr : MapT Tryz.prog 157 := ⟨9, 3, Tryz.underlying157, Tryz.underlying9, fun w => OneT.zero (P := Tryz.prog) (t := 3) w⟩
set_option maxRecDepth 100000 in
theorem eval_Check (p : Option Addr) (c : Nat) (ws : List BindM) (w : World) (hR : Row bindE 4 w.cell? p c ws) (hB : ∀ b ∈ ws, BindG w.cell? b) (hG : GlobA w) :
    Calls Tryz.prog 34 #[.slice p ws.length c] w fun e w' => e = .returned (errV 25 (spaceF (ws.map BindM.bnd))) ∧ Below w.heap.size w w' := by
  have hlen := hR.len
  refine enterR (G := w.cell?) (args := [_]) (m := []) (Rd.sub_cell w) rfl Tryz.func34 rfl Tryz.ntmps34 (by simp) ?_
  by_cases h20 : (20 : Int) < (ws.length : Int)
  · have hs : spaceF (ws.map BindM.bnd) = 7 := by unfold spaceF; rw [if_pos (by simp; omega)]
    rw [hs]
    (repeat' (first|refine zza ?_|refine zc9 ?_|refine zzb fun w hw => ?_|refine zzh fun _ => ?_|refine zzi fun _ _ => ?_|refine zzj (fun _ => ?_) fun _ => ?_))
    exact ⟨rfl, hw.below⟩
  have hs : spaceF (ws.map BindM.bnd) = spaceG [] (ws.map BindM.bnd) := by unfold spaceF; rw [if_neg (by simp; omega)]
  rw [hs]
  clear hs
  obtain ⟨Z, hZ⟩ : ∃ Z, spaceG [] (ws.map BindM.bnd) = Z := ⟨_, rfl⟩
  rw [hZ]
  (repeat' (first|refine zza ?_|refine zc9 ?_|refine zzb fun w hw => ?_|refine zzh fun _ => ?_|refine zzi fun _ _ => ?_|refine zzj (fun _ => ?_) fun _ => ?_))
  apply WL_makeMap rfl rfl
  intro bm
  (repeat' (first|refine zza ?_|refine zc9 ?_|refine zzb fun w hw => ?_|refine zzh fun _ => ?_|refine zzi fun _ _ => ?_|refine zzj (fun _ => ?_) fun _ => ?_))
  refine CW_loopK [(0,_),(3,_),(16,_),(17,_)] zcov (fun x : Nat => [(18, .int .i64 x)]) (fun x => [mp bm (namesK (ws.take x)), ro w [] w.cell?]) (fun x => x ≤ ws.length ∧ spaceG ((ws.take x).map (·.name)) ((ws.drop x).map BindM.bnd) = Z) (fun x => ws.length - x) 0 ⟨Nat.zero_le _, hZ⟩ zcov zent ?_
  rintro k ⟨hk, hz⟩
  by_cases hlt : k < ws.length
  · obtain ⟨x, hx⟩ : ∃ x, ws[k]? = some x := ⟨ws[k], by simp [hlt]⟩
    rw [space_step hx] at hz
    have hb := hB x (List.mem_of_getElem? hx)
    have hhas := hasK_names (ws.take k) x.name
    have hsn := namesK_snoc hx
    generalize namesK (ws.take k) = ks at hhas hsn ⊢
    have hsp := spell_name x.name
    clear hZ
    (repeat' (first|refine zza ?_|refine zc9 ?_|refine zzb fun w hw => ?_|refine zzh fun _ => ?_|refine zzi fun _ _ => ?_|refine zzj (fun _ => ?_) fun _ => ?_))
    rename_i b5 b27
    refine WL_ent (Ent.consK (b' := b27) (cs' := (([⟨3, 0, 0, x.name, 0⟩] : List Tok).flatMap tokE).toArray) (k := Ent.refl) .here) ?_
    (apply WL_callV; rfl; rfl; rfl; (intro W hW; exact lex_Spell (some ⟨b27, 0, none⟩) 1 [⟨3, 0, 0, x.name, 0⟩] W (row_blk (enc := tokE) (xs := [⟨3, 0, 0, x.name, 0⟩]) hW .here (fun _ => rfl) (by simp)) ⟨by simp [I64], by simpa using hb.name⟩ (hG.below hW.below)))
    rw [hsp]
    by_cases hn : nameF x.name = 0
    · rw [if_neg (fun h => h hn)] at hz
      rw [hn, errV_zero]
      (repeat' (first|refine zza ?_|refine zc9 ?_|refine zzb fun w hw => ?_|refine zzh fun _ => ?_|refine zzi fun _ _ => ?_|refine zzj (fun _ => ?_) fun _ => ?_))
      apply WL_op rfl rfl (y_lookup (ks := ks) rfl rfl zpk)
      rw [hhas]
      by_cases hm : x.name ∈ (ws.take k).map (·.name)
      · rw [if_pos hm] at hz
        rw [decide_eq_true hm]
        subst hz
        (repeat' (first|refine zza ?_|refine zc9 ?_|refine zzb fun w hw => ?_|refine zzh fun _ => ?_|refine zzi fun _ _ => ?_|refine zzj (fun _ => ?_) fun _ => ?_))
        exact ⟨by rw [errV_ne (by decide)], hw.below⟩
      · rw [if_neg hm] at hz
        rw [decide_eq_false hm] at hhas ⊢
        (repeat' (first|refine zza ?_|refine zc9 ?_|refine zzb fun w hw => ?_|refine zzh fun _ => ?_|refine zzi fun _ _ => ?_|refine zzj (fun _ => ?_) fun _ => ?_))
        apply WL_mapNew (ks := ks) rfl rfl rfl zpk hhas rfl rfl
        rw [← hsn]
        (repeat' (first|refine zza ?_|refine zc9 ?_|refine zzb fun w hw => ?_|refine zzh fun _ => ?_|refine zzi fun _ _ => ?_|refine zzj (fun _ => ?_) fun _ => ?_))
        (apply WL_callV; rfl; rfl; rfl; (intro W hW; exact arr_Check x.char x.shape.p x.data.p x.shape.c x.data.c x.shape.xs x.data.xs W (ints_row (hb.shape.mono (hW.le (.there (.there (.there .here))))) hb.shapeR) (ints_row (hb.data.mono (hW.le (.there (.there (.there .here))))) hb.dataR)))
        by_cases hc : checkF x.char x.shape.xs x.data.xs = 0
        · rw [if_neg (fun h => h hc)] at hz
          rw [hc, errV_zero]
          (repeat' (first|refine zza ?_|refine zc9 ?_|refine zzb fun w hw => ?_|refine zzh fun _ => ?_|refine zzi fun _ _ => ?_|refine zzj (fun _ => ?_) fun _ => ?_))
          exact EX_loop' (k + 1) ⟨zcov, zent, by omega, by omega, hz⟩
        · rw [if_pos hc] at hz
          subst hz
          rw [errV_ne hc]
          (repeat' (first|refine zza ?_|refine zc9 ?_|refine zzb fun w hw => ?_|refine zzh fun _ => ?_|refine zzi fun _ _ => ?_|refine zzj (fun _ => ?_) fun _ => ?_))
          exact ⟨rfl, hw.below⟩
    · rw [if_pos hn] at hz
      rw [errV_ne hn]
      subst hz
      (repeat' (first|refine zza ?_|refine zc9 ?_|refine zzb fun w hw => ?_|refine zzh fun _ => ?_|refine zzi fun _ _ => ?_|refine zzj (fun _ => ?_) fun _ => ?_))
      exact ⟨by rw [errV_ne (by decide)], hw.below⟩
  · have hkl : k = ws.length := by omega
    subst hkl
    rw [List.drop_length] at hz
    have hz0 : Z = 0 := hz.symm
    subst hz0
    (repeat' (first|refine zza ?_|refine zc9 ?_|refine zzb fun w hw => ?_|refine zzh fun _ => ?_|refine zzi fun _ _ => ?_|refine zzj (fun _ => ?_) fun _ => ?_))
    exact ⟨by rw [errV_zero], hw.below⟩
end Go.Proofs.YtdnkapfcnapadaaGreatDoor
