/-
  save.Write.
-/
import Derived.Test.YtdnkapfcnapadaaGreatDoorGo
import Derived.Test.YtdnkapfcnapadaaGreatDoorSave3
import Derived.Test.YtdnkapfcnapadaaGreatDoorDefer
import Derived.Test.YtdnkapfcnapadaaGreatDoorSaveSpace
namespace Go.Proofs.YtdnkapfcnapadaaGreatDoor
open Go.RowKit

theorem bldr_new {b : Nat} {T : TypeId} {m r : List HP} (hp : Pick m (blk b T #[.pointer none, .slice none 0 0]) r) : Ent m (bldr T b [] :: r) := fun fp w ho => by
  obtain ⟨f1, f2, he, hb, hr, hd⟩ := hp.own ho
  obtain ⟨rfl, hbb⟩ := hb
  refine ⟨[b] ++ f2, ⟨[b], f2, rfl, ⟨.pointer none, none, 0, .inl rfl, hbb, ⟨by simp [Lib.byteCells], .inl ⟨rfl, rfl⟩⟩, by simp [blkOf], rfl⟩, hr, hd⟩, fun i hi => ?_⟩
  exact (he i).2 (List.mem_append.1 hi)
/-- what Write tells -/
def writeF (ws : List Bnd) : Int × List UInt8 := if spaceF ws ≠ 0 then (spaceF ws, []) else (0, bodyB ws ++ le4 (sumF (bodyB ws)))
theorem flat_bound {α : Type} {f : α → List UInt8} {K : Nat} : ∀ (xs : List α), (∀ x ∈ xs, (f x).length ≤ K) → (xs.flatMap f).length ≤ xs.length * K
  | [], _ => by simp
  | x :: xs, h => by
    have h1 := h x (by simp)
    have h2 := flat_bound xs (fun y hy => h y (by simp [hy]))
    rw [List.flatMap_cons, List.length_append, List.length_cons, Nat.add_mul]
    omega
theorem prodF_le : ∀ (s : List Int) (a : Int), a ≤ 4096 → (prodF a s).1 ≤ 4096
  | [], a, h => h
  | n :: r, a, h => by
    rw [prodF]
    split
    · exact (by decide)
    · exact prodF_le r _ (by omega)
theorem room_le {s : List Int} {n : Nat} (h : roomP s = some n) : n ≤ 4096 := by
  unfold roomP at h
  split at h
  · injection h with h; omega
  · split at h
    · cases h
    · injection h with h
      have := prodF_le s 1 (by decide)
      omega
theorem bind_len {b : Bnd} (h : BindOk b) : (bindB b).length ≤ 50000 := by
  have h1 := h.name
  have h2 := h.rank
  have h3 := room_le h.room
  have h4 := flat_bound (f := fun n : Int => cntB n.toNat) (K := 10) b.shape (fun n hn => cntB_len10 (by have := h.axes n hn; omega))
  have h5 := flat_bound (f := fun n : Int => cntB (zig n)) (K := 10) b.data (fun n hn => cntB_len10 (zig_lt (h.nums n hn)))
  have h6 := cntB_len10 (n := b.name.length) (by omega)
  have h7 := cntB_len10 (n := b.shape.length) (by omega)
  have h8 : b.shape.length * 10 ≤ 60 := by omega
  have h9 : b.data.length * 10 ≤ 40960 := by omega
  unfold bindB valB
  simp only [List.length_append, List.length_cons]
  omega
theorem body_len {ws : List Bnd} (h : ws.length ≤ 20) (hb : ∀ b ∈ ws, BindOk b) : (bodyB ws).length ≤ 1048576 := by
  have h1 := flat_bound (f := bindB) (K := 50000) ws (fun b hb' => bind_len (hb b hb'))
  have h2 := cntB_len10 (n := ws.length) (by omega)
  have h3 : ws.length * 50000 ≤ 1000000 := by omega
  unfold bodyB
  rw [List.length_append]
  omega
theorem le4_take (s : BitVec 32) (k : Nat) (h : k < 4) : (le4 s).take (k + 1) = (le4 s).take k ++ [UInt8.ofNat (s.toNat / 256 ^ k)] := by
  match k, h with
  | 0, _ => simp [le4]
  | 1, _ => simp [le4]
  | 2, _ => simp [le4]
  | 3, _ => simp [le4]
set_option maxRecDepth 100000 in
theorem save_Write (p : Option Addr) (c : Nat) (ws : List BindM) (w : World) (hR : Row bindE 4 w.cell? p c ws) (hB : ∀ b ∈ ws, BindG w.cell? b) (hG : GlobA w) :
    Calls Tryz.prog 13 #[.slice p ws.length c] w fun e w' => e = .returned (.tuple #[.string ⟨(writeF (ws.map BindM.bnd)).2.toArray⟩, errV 25 (writeF (ws.map BindM.bnd)).1]) ∧ Below w.heap.size w w' := by
  have hlen := hR.len
  refine enterR (G := w.cell?) (args := [_]) (m := []) (Rd.sub_cell w) rfl Tryz.func13 rfl Tryz.ntmps13 (by simp) ?_
  (repeat' (first|refine zza ?_|refine zc9 ?_|refine zzb fun w hw => ?_|refine zzh fun _ => ?_|refine zzi fun _ _ => ?_|refine zzj (fun _ => ?_) fun _ => ?_))
  (apply WL_callV; rfl; rfl; rfl; (intro W hW; exact eval_Check p c ws W (hR.mono (hW.le .here)) (fun b hb => (hB b hb).mono (hW.le .here)) (hG.below hW.below)))
  by_cases hs : spaceF (ws.map BindM.bnd) = 0
  · obtain ⟨h20, hok⟩ := space_ok hs (fun b hb => by
      obtain ⟨x, hx, rfl⟩ := List.mem_map.1 hb
      exact (hB x hx).dataR)
    have hbl := body_len h20 hok
    have hwf : writeF (ws.map BindM.bnd) = (0, bodyB (ws.map BindM.bnd) ++ le4 (sumF (bodyB (ws.map BindM.bnd)))) := by unfold writeF; rw [if_neg (fun h => h hs)]
    have hbody : bodyB (ws.map BindM.bnd) = cntB ws.length ++ ws.flatMap (fun b => bindB b.bnd) := by
      unfold bodyB; rw [List.length_map, List.flatMap_map]
    rw [hwf, hs, errV_zero]
    rw [hbody] at hbl ⊢
    rw [List.length_append] at hbl
    clear hwf hbody hs
    (repeat' (first|refine zza ?_|refine zc9 ?_|refine zzb fun w hw => ?_|refine zzh fun _ => ?_|refine zzi fun _ _ => ?_|refine zzj (fun _ => ?_) fun _ => ?_))
    rename_i b5
    refine WL_ent (bldr_new (b := b5) .here) ?_
    (apply WL_op rfl rfl (y_u64 rfl (by omega)))
    (apply WL_callW (h := bldr WrT b5 []); rfl; rfl; rfl; (first | exact .here | exact .there .here | exact .there (.there .here) | exact .there (.there (.there .here)) | exact .there (.there (.there (.there .here))) | exact .there (.there (.there (.there (.there .here)))) | exact .there (.there (.there (.there (.there (.there .here)))))); (intro W fp hW hP hF; exact save_count b5 [] ws.length (by omega) (by rw [List.nil_append]; omega) W fp hP); intro _ _)
    (repeat' (first|refine zza ?_|refine zc9 ?_|refine zzb fun w hw => ?_|refine zzh fun _ => ?_|refine zzi fun _ _ => ?_|refine zzj (fun _ => ?_) fun _ => ?_))
    refine CW_loopK [(18,_),(19,_),(5,_),(0,_)] zcov (fun x : Nat => [(20, .int .i64 x)]) (fun x => [bldr WrT b5 (cntB ws.length ++ (ws.take x).flatMap (fun b => bindB b.bnd)), ro w [] w.cell?]) (fun x => x ≤ ws.length) (fun x => ws.length - x) 0 (Nat.zero_le _) zcov (by simp only [List.take_zero, List.flatMap_nil, List.append_nil, List.nil_append]; exact zent) ?_
    intro k hk
    by_cases hlt : k < ws.length
    · obtain ⟨x, hx⟩ : ∃ x, ws[k]? = some x := ⟨ws[k], by simp [hlt]⟩
      have hxm := List.mem_of_getElem? hx
      have hb := hB x hxm
      have ho := hok x.bnd (List.mem_map.2 ⟨x, hxm, rfl⟩)
      have hn12 : x.name.length ≤ 12 := ho.name
      have hf := flat_take (f := fun b : BindM => bindB b.bnd) hx
      have hfl := flat_le (f := fun b : BindM => bindB b.bnd) hx
      have hbx : bindB x.bnd = cntB x.name.length ++ (x.name ++ valB x.char x.shape.xs x.data.xs) := rfl
      simp only [hbx] at hf hfl
      simp only [List.length_append] at hfl
      generalize hu : cntB ws.length ++ (ws.take k).flatMap (fun b => bindB b.bnd) = u
      have hul : u.length = (cntB ws.length).length + ((ws.take k).flatMap (fun b => bindB b.bnd)).length := by rw [← hu, List.length_append]
      (repeat' (first|refine zza ?_|refine zc9 ?_|refine zzb fun w hw => ?_|refine zzh fun _ => ?_|refine zzi fun _ _ => ?_|refine zzj (fun _ => ?_) fun _ => ?_))
      (apply WL_op rfl rfl (y_u64 rfl (by omega)))
      (apply WL_callW (h := bldr WrT b5 u); rfl; rfl; rfl; (first | exact .here | exact .there .here | exact .there (.there .here) | exact .there (.there (.there .here)) | exact .there (.there (.there (.there .here))) | exact .there (.there (.there (.there (.there .here)))) | exact .there (.there (.there (.there (.there (.there .here)))))); (intro W fp hW hP hF; exact save_count b5 u x.name.length (by omega) (by rw [List.length_append]; omega) W fp hP); intro _ _)
      (repeat' (first|refine zza ?_|refine zc9 ?_|refine zzb fun w hw => ?_|refine zzh fun _ => ?_|refine zzi fun _ _ => ?_|refine zzj (fun _ => ?_) fun _ => ?_))
      (apply WL_callW (h := bldr WrT b5 (u ++ cntB x.name.length)); rfl; rfl; rfl; (first | exact .here | exact .there .here | exact .there (.there .here) | exact .there (.there (.there .here)) | exact .there (.there (.there (.there .here))) | exact .there (.there (.there (.there (.there .here)))) | exact .there (.there (.there (.there (.there (.there .here)))))); (intro W fp hW hP hF; exact bldr_WriteString WrT lies_wr b5 (u ++ cntB x.name.length) x.name W fp hP (by rw [List.length_append]; omega)); intro _ _)
      (repeat' (first|refine zza ?_|refine zc9 ?_|refine zzb fun w hw => ?_|refine zzh fun _ => ?_|refine zzi fun _ _ => ?_|refine zzj (fun _ => ?_) fun _ => ?_))
      (apply WL_callU1 (h := bldr WrT b5 (u ++ cntB x.name.length ++ x.name)); (first | exact .here | exact .there .here | exact .there (.there .here) | exact .there (.there (.there .here)) | exact .there (.there (.there (.there .here))) | exact .there (.there (.there (.there (.there .here)))) | exact .there (.there (.there (.there (.there (.there .here)))))); (first | exact .here | exact .there .here | exact .there (.there .here) | exact .there (.there (.there .here)) | exact .there (.there (.there (.there .here))) | exact .there (.there (.there (.there (.there .here)))) | exact .there (.there (.there (.there (.there (.there .here)))))); rfl; rfl; rfl; (intro W fp hO hS; exact save_value b5 (u ++ cntB x.name.length ++ x.name) x.char x.shape.p x.data.p x.shape.c x.data.c x.shape.xs x.data.xs w.cell? hb.shape hb.data ho.axes ho.rank hb.dataR (by simp only [List.length_append]; omega) W fp hO hS))
      (repeat' (first|refine zza ?_|refine zc9 ?_|refine zzb fun w hw => ?_|refine zzh fun _ => ?_|refine zzi fun _ _ => ?_|refine zzj (fun _ => ?_) fun _ => ?_))
      refine EX_loop' (k + 1) ⟨zcov, ?_, by omega, by omega⟩
      have e : cntB ws.length ++ (ws.take (k + 1)).flatMap (fun b => bindB b.bnd) = u ++ cntB x.name.length ++ x.name ++ valB x.char x.shape.xs x.data.xs := by
        rw [hf, ← hu]; simp only [List.append_assoc]
      rw [e]
      exact zent
    · have hkl : k = ws.length := by omega
      subst hkl
      rw [List.take_length]
      rw [← List.length_append] at hbl
      generalize cntB ws.length ++ ws.flatMap (fun b => bindB b.bnd) = u at hbl ⊢
      have h32 := (sumF u).isLt
      (repeat' (first|refine zza ?_|refine zc9 ?_|refine zzb fun w hw => ?_|refine zzh fun _ => ?_|refine zzi fun _ _ => ?_|refine zzj (fun _ => ?_) fun _ => ?_))
      (apply WL_callW (h := bldr WrT b5 u); rfl; rfl; rfl; (first | exact .here | exact .there .here | exact .there (.there .here) | exact .there (.there (.there .here)) | exact .there (.there (.there (.there .here))) | exact .there (.there (.there (.there (.there .here)))) | exact .there (.there (.there (.there (.there (.there .here)))))); (intro W fp hW hP hF; exact bldr_String' WrT b5 u W fp hP); intro _ _)
      (repeat' (first|refine zza ?_|refine zc9 ?_|refine zzb fun w hw => ?_|refine zzh fun _ => ?_|refine zzi fun _ _ => ?_|refine zzj (fun _ => ?_) fun _ => ?_))
      (apply WL_callV; rfl; rfl; rfl; (intro W hW; exact save_Sum u W (by omega)))
      (repeat' (first|refine zza ?_|refine zc9 ?_|refine zzb fun w hw => ?_|refine zzh fun _ => ?_|refine zzi fun _ _ => ?_|refine zzj (fun _ => ?_) fun _ => ?_))
      generalize sumF u = s at h32 ⊢
      refine CW_loopK [(5,_)] zcov (fun x : Nat => [(40, .int .i64 x), (8, .int .i64 ((s.toNat / 256 ^ x : Nat) : Int))]) (fun x => [bldr WrT b5 (u ++ (le4 s).take x)]) (fun x => x ≤ 4) (fun x => 4 - x) 0 (Nat.zero_le _) zcov (by simp only [List.take_zero, List.append_nil]; exact zent) ?_
      intro k hk4
      have hlen4 : ((le4 s).take k).length ≤ 4 := by rw [List.length_take]; exact Nat.le_trans (Nat.min_le_left _ _) hk4
      by_cases h4 : k < 4
      · have ht := le4_take s k h4
        have h256 : s.toNat / 256 ^ (k + 1) = s.toNat / 256 ^ k / 256 := by rw [Nat.pow_succ, Nat.div_div_eq_div_mul]
        have hle : s.toNat / 256 ^ k ≤ s.toNat := Nat.div_le_self _ _
        generalize s.toNat / 256 ^ k = v at ht h256 hle ⊢
        have e8 : (v : Int) % 256 = ((UInt8.ofNat v).toNat : Int) := by rw [UInt8.toNat_ofNat']; omega
        have e9 : (v : Int) / 256 = ((v / 256 : Nat) : Int) := by omega
        (repeat' (first|refine zza ?_|refine zc9 ?_|refine zzb fun w hw => ?_|refine zzh fun _ => ?_|refine zzi fun _ _ => ?_|refine zzj (fun _ => ?_) fun _ => ?_))
        rw [e8]
        generalize UInt8.ofNat v = y at ht ⊢
        (apply WL_callW (h := bldr WrT b5 (u ++ (le4 s).take k)); rfl; rfl; rfl; (first | exact .here | exact .there .here | exact .there (.there .here) | exact .there (.there (.there .here)) | exact .there (.there (.there (.there .here))) | exact .there (.there (.there (.there (.there .here)))) | exact .there (.there (.there (.there (.there (.there .here)))))); (intro W fp hW hP hF; exact bldr_WriteByte WrT lies_wr b5 (u ++ (le4 s).take k) y W fp hP (by rw [List.length_append]; omega)); intro _ _)
        (repeat' (first|refine zza ?_|refine zc9 ?_|refine zzb fun w hw => ?_|refine zzh fun _ => ?_|refine zzi fun _ _ => ?_|refine zzj (fun _ => ?_) fun _ => ?_))
        rw [e9, ← h256]
        refine EX_loop' (k + 1) ⟨zcov, ?_, by omega, by omega⟩
        rw [ht, ← List.append_assoc]
        exact zent
      · have hk' : k = 4 := by omega
        subst hk'
        rw [show (le4 s).take 4 = le4 s from rfl]
        (repeat' (first|refine zza ?_|refine zc9 ?_|refine zzb fun w hw => ?_|refine zzh fun _ => ?_|refine zzi fun _ _ => ?_|refine zzj (fun _ => ?_) fun _ => ?_))
        (apply WL_callW (h := bldr WrT b5 (u ++ le4 s)); rfl; rfl; rfl; (first | exact .here | exact .there .here | exact .there (.there .here) | exact .there (.there (.there .here)) | exact .there (.there (.there (.there .here))) | exact .there (.there (.there (.there (.there .here)))) | exact .there (.there (.there (.there (.there (.there .here)))))); (intro W fp hW hP hF; exact bldr_String' WrT b5 (u ++ le4 s) W fp hP); intro _ _)
        (repeat' (first|refine zza ?_|refine zc9 ?_|refine zzb fun w hw => ?_|refine zzh fun _ => ?_|refine zzi fun _ _ => ?_|refine zzj (fun _ => ?_) fun _ => ?_))
        exact ⟨rfl, hw.below⟩
  · have hwf : writeF (ws.map BindM.bnd) = (spaceF (ws.map BindM.bnd), []) := by unfold writeF; rw [if_pos hs]
    rw [hwf, errV_ne hs]
    (repeat' (first|refine zza ?_|refine zc9 ?_|refine zzb fun w hw => ?_|refine zzh fun _ => ?_|refine zzi fun _ _ => ?_|refine zzj (fun _ => ?_) fun _ => ?_))
    exact ⟨rfl, hw.below⟩
end Go.Proofs.YtdnkapfcnapadaaGreatDoor
