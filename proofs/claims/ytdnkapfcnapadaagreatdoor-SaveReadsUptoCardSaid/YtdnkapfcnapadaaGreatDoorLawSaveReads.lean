/-
  ravelinref5.Loaded.
  The law SaveReads.
-/
import Derived.Test.YtdnkapfcnapadaaGreatDoorGo
import Derived.Test.YtdnkapfcnapadaaGreatDoorRefLoaded
import Derived.Test.YtdnkapfcnapadaaGreatDoorRefSpace
import Derived.Test.YtdnkapfcnapadaaGreatDoorSaveR6
import Derived.Test.YtdnkapfcnapadaaGreatDoorLaidF
namespace Go.Proofs.YtdnkapfcnapadaaGreatDoor
open Go.RowKit

theorem Holds.roAdd {w0 w : World} {F : List Nat} {G : Rd} {m : List HP} (hS : Rd.sub G F w0) (h : Holds w0 F m w) : Holds w0 F (ro w0 F G :: m) w := by
  obtain ⟨fp, ho, hF⟩ := h.own
  exact ⟨h.keep, fp, ⟨[], fp, rfl, ⟨by simp, fun a v e => .inr ⟨cell_lt (hS a v e).1, (hS a v e).2, (hS a v e).1⟩⟩, ho, by simp⟩, hF⟩
section
variable (l : List UInt8) (k : Nat) (hl : l.length ≤ 1099511627776) (hk : k ≤ l.length) (w : World)
include hl hk
theorem lv_bad (h : valP (l.drop k) = none) : Calls Tryz.prog 42 #[.string ⟨l.toArray⟩, .int .i64 (k : Int)] w fun e w' =>
    ∃ x : Bool × Option Addr × Option Addr × Nat × Nat × Nat × Nat, True ∧ e = .returned (.tuple #[.agg #[.bool x.1, .slice x.2.1 x.2.2.2.1 x.2.2.2.2.1, .slice x.2.2.1 x.2.2.2.2.2.1 x.2.2.2.2.2.2], .int .i64 (-1)]) ∧ Holds w [] [] w' :=
  (ref_loadedValue l k hl hk w).mono fun e w' hq => by
    rcases hq with ⟨ch, s, d, k', p, q, c, c2, h1, h2, _⟩ | ⟨_, ch, p, q, n, c, n2, c2, h2, h3⟩
    · rw [h] at h2; cases h2
    · exact ⟨(ch, p, q, n, c, n2, c2), trivial, h2, (Holds.nil w []).grow h3⟩
theorem lv_ok {ch : Bool} {s d : List Int} {k' : Nat} (hk' : k' ≤ l.length) (h : valP (l.drop k) = some ((ch, s, d), l.drop k')) (G : Rd) (fp : List Nat) (hO : Own [] fp w) (hS : Rd.sub G fp w) : Calls Tryz.prog 42 #[.string ⟨l.toArray⟩, .int .i64 (k : Int)] w fun e w' =>
    ∃ z : Rd × SlV Int × SlV Int, (z.2.1.xs = s ∧ z.2.2.xs = d ∧ ValR z.1 z.2.1 z.2.2) ∧ e = .returned (.tuple #[.agg #[.bool ch, .slice z.2.1.p z.2.1.xs.length z.2.1.c, .slice z.2.2.p z.2.2.xs.length z.2.2.c], .int .i64 (k' : Int)]) ∧ Rd.grow w G z.1 ∧ Holds w fp (ro w fp z.1 :: []) w' := by
  simp only [Own] at hO
  subst hO
  refine (ref_loadedValue l k hl hk w).mono fun e w' hq => ?_
  rcases hq with ⟨ch', s', d', k'', p, q, c, c2, h1, h2, h3, h4⟩ | ⟨h2, _⟩
  · obtain ⟨_, _, hax, _, hdr⟩ := val_dec h
    rw [h] at h2
    injection h2 with h2
    injection h2 with h5 h6
    injection h5 with h7 h8
    injection h8 with h8 h9
    have := drop_inj h6 hk' h1
    subst this h7 h8 h9
    have hx : ∀ xs : List Int, xs.map (Value.int .i64) = xs.flatMap encI := ints_flat
    rw [hx, hx] at h4
    obtain ⟨G1, g1, r1, h5⟩ := Holds.toRo (enc := encI) (sz := 1) (fun _ => rfl) Nat.one_pos (Holds.roAdd hS h4) (fun f _ i hi => by cases hi)
    obtain ⟨G2, g2, r2, h6⟩ := Holds.toRo (enc := encI) (sz := 1) (fun _ => rfl) Nat.one_pos h5 (fun f _ i hi => by cases hi)
    exact ⟨(G2, ⟨p, c, s⟩, ⟨q, c2, d⟩), ⟨rfl, rfl, ⟨r1.mono g2.1, r2, fun n hn => by have := hax n hn; unfold I64; omega, hdr⟩⟩, h3, Rd.grow_tr g1 g2, h6⟩
  · rw [h] at h2; cases h2
end
def restB (nn : Nat) (r : List UInt8) : Option (List Bnd) := match manyP bindP nn r with
  | none => none
  | some (ws, r) => if r = [] ∧ spaceF ws = 0 then some ws else none
def LoadPostR (l : List UInt8) (w : World) (e : Ending) (w' : World) : Prop :=
  ∃ (p : Option Addr) (c : Nat) (ws : List BindM), ws.map BindM.bnd = (loadF l).2 ∧ e = .returned (.tuple #[.slice p ws.length c, .int .i64 (loadF l).1]) ∧ Row bindE 4 w'.cell? p c ws ∧ (∀ b ∈ ws, BindG w'.cell? b) ∧ Below w.heap.size w w'
theorem LoadPostR.bad {l : List UInt8} {w w' : World} {x : Int} (h : loadF l = (x, [])) (hb : Below w.heap.size w w') : LoadPostR l w (.returned (.tuple #[.slice none 0 0, .int .i64 x])) w' :=
  ⟨none, 0, [], by rw [h]; rfl, by rw [h]; rfl, Row.nil _ _ _, by simp, hb⟩
set_option maxHeartbeats 8000000 in
set_option maxRecDepth 100000 in
theorem ref_Loaded (l : List UInt8) (w : World) (hl : l.length ≤ 1099511627776) :
    Calls Tryz.prog 15 #[.string ⟨l.toArray⟩] w (LoadPostR l w) := by
  refine enterR (G := w.cell?) (args := [_]) (m := []) (Rd.sub_cell w) rfl Tryz.func15 rfl Tryz.ntmps15 (by simp) ?_
  by_cases h4 : (l.length : Int) < 4
  · have hr : loadF l = (4, []) := by unfold loadF; rw [if_pos (by omega)]
    (repeat' (first|refine zza ?_|refine zc9 ?_|refine zzb fun w hw => ?_|refine zzh fun _ => ?_|refine zzi fun _ _ => ?_|refine zzj (fun _ => ?_) fun _ => ?_))
    exact LoadPostR.bad hr hw.below
  obtain ⟨body, hbody⟩ : ∃ body, body = l.take (l.length - 4) := ⟨_, rfl⟩
  obtain ⟨tl, htl⟩ : ∃ tl, tl = l.drop (l.length - 4) := ⟨_, rfl⟩
  have hr : loadF l = (if le4 (sumF body) ≠ tl then (6, []) else match bodyP body with
    | none => (1, [])
    | some ws => (0, ws) : Int × List Bnd) := by unfold loadF; rw [if_neg (by omega), ← hbody, ← htl]; rfl
  have hbl : body.length ≤ 1099511627776 := by rw [hbody]; exact Nat.le_trans (List.length_take_le _ _) (by omega)
  have e4 : ((l.length : Int) - 4).toNat = l.length - 4 := by omega
  (repeat' (first|refine zza ?_|refine zc9 ?_|refine zzb fun w hw => ?_|refine zzh fun _ => ?_|refine zzi fun _ _ => ?_|refine zzj (fun _ => ?_) fun _ => ?_))
  rw [e4, ← hbody]
  (repeat' (first|refine zza ?_|refine zc9 ?_|refine zzb fun w hw => ?_|refine zzh fun _ => ?_|refine zzi fun _ _ => ?_|refine zzj (fun _ => ?_) fun _ => ?_))
  (apply WQ_callV; rfl; rfl; rfl; (intro W hW; exact ref_Checked body W hbl))
  (repeat' (first|refine zza ?_|refine zc9 ?_|refine zzb fun w hw => ?_|refine zzh fun _ => ?_|refine zzi fun _ _ => ?_|refine zzj (fun _ => ?_) fun _ => ?_))
  (apply WQ_callV; rfl; rfl; rfl; (intro W hW; exact ref_Tail (sumF body) W))
  have htl' : tl = l.drop ((l.length : Int) - 4).toNat := by rw [e4, htl]
  by_cases hs : le4 (sumF body) = tl
  case neg =>
    rw [if_pos hs] at hr
    rw [htl'] at hs
    (repeat' (first|refine zza ?_|refine zc9 ?_|refine zzb fun w hw => ?_|refine zzh fun _ => ?_|refine zzi fun _ _ => ?_|refine zzj (fun _ => ?_) fun _ => ?_))
    exact LoadPostR.bad hr hw.below
  rw [if_neg (fun h => h hs)] at hr
  rw [htl'] at hs
  obtain ⟨Z, hZ⟩ : ∃ Z, bodyP body = Z := ⟨_, rfl⟩
  rw [hZ] at hr
  have hbad : Z = none → ∀ w', Below w.heap.size w w' → LoadPostR l w (.returned (.tuple #[.slice none 0 0, .int .i64 1])) w' := fun h w' hb => by
    subst h; exact LoadPostR.bad hr hb
  have hfirst : ∃ (nn : Nat) (o0 : Option Nat), nn ≤ 20 ∧ smallR body 0 20 = ((nn : Int), posV o0) ∧ (o0 = none → Z = none) ∧ ∀ k1, o0 = some k1 → k1 ≤ body.length ∧ restB nn (body.drop k1) = Z := by
    unfold bodyP bindsP at hZ
    cases hb : belowP 20 (body.drop 0) with
    | none =>
      rw [show body = body.drop 0 from rfl, hb] at hZ
      exact ⟨0, none, by decide, small_none hb, fun _ => hZ.symm, fun k1 h => by cases h⟩
    | some q =>
      obtain ⟨n, r⟩ := q
      rw [show body = body.drop 0 from rfl, hb] at hZ
      obtain ⟨n0, n6⟩ := (below_dec hb).2
      obtain ⟨k1, hk1', rfl⟩ := below_at hb (Nat.zero_le _)
      obtain ⟨nn, rfl⟩ := Int.eq_ofNat_of_zero_le n0
      refine ⟨nn, some k1, by omega, small_some hb hk1', fun h => (by cases h), fun k2 h => ?_⟩
      injection h with h
      subst h
      exact ⟨hk1', hZ⟩
  clear hZ hbody e4
  obtain ⟨nn, o0, hnn, hsm, hno0, hyes0⟩ := hfirst
  (repeat' (first|refine zza ?_|refine zc9 ?_|refine zzb fun w hw => ?_|refine zzh fun _ => ?_|refine zzi fun _ _ => ?_|refine zzj (fun _ => ?_) fun _ => ?_))
  clear hs htl' htl
  (apply WL_callV; rfl; rfl; rfl; (intro W hW; exact ref_small body 0 20 hbl (Nat.zero_le _) (by decide) W))
  rw [hsm]
  clear hsm
  dsimp only
  (repeat' (first|refine zza ?_|refine zc9 ?_|refine zzb fun w hw => ?_|refine zzh fun _ => ?_|refine zzi fun _ _ => ?_|refine zzj (fun _ => ?_) fun _ => ?_))
  refine CW_ent (m' := [sl 89 4 none 0 0 [], ro w [] w.cell?]) (Ent.nilown zent) ?_
  refine CW_loopK [(4,_),(5, .int .i64 (nn : Int))] zcov (fun x : Nat × Option Nat × Rd × List BindM × Option Addr × Nat × List Value => [(8, .int .i64 (x.1 : Nat)), (6, .int .i64 (posV x.2.1)), (7, .slice x.2.2.2.2.1 x.1 x.2.2.2.2.2.1)]) (fun x => [sl 89 4 x.2.2.2.2.1 x.1 x.2.2.2.2.2.1 x.2.2.2.2.2.2, ro w [] x.2.2.1]) (fun x => x.1 ≤ nn ∧ (x.2.1 = none → Z = none) ∧ ∀ kj, x.2.1 = some kj → kj ≤ body.length ∧ x.2.2.2.1.length = x.1 ∧ x.2.2.2.2.2.2 = x.2.2.2.1.flatMap bindE ∧ (∃ k1, o0 = some k1 ∧ manyP bindP x.1 (body.drop k1) = some (x.2.2.2.1.map BindM.bnd, body.drop kj)) ∧ Rd.grow w w.cell? x.2.2.1 ∧ ∀ y ∈ x.2.2.2.1, BindG x.2.2.1 y) (fun x => nn - x.1) (0, o0, w.cell?, [], none, 0, []) ⟨Nat.zero_le _, hno0, fun kj h => ⟨(hyes0 kj h).1, rfl, rfl, ⟨kj, h, rfl⟩, Rd.grow_refl _ _, by simp⟩⟩ zcov zent ?_
  rintro ⟨j, o, Gx, ws, p, c, cells⟩ ⟨hj, hno, hyes⟩
  dsimp only at hj hno hyes ⊢
  cases o with
  | none =>
    have hz := hno rfl
    dsimp only [posV]
    by_cases hlt : j < nn
    · (repeat' (first|refine zza ?_|refine zc9 ?_|refine zzb fun w hw => ?_|refine zzh fun _ => ?_|refine zzi fun _ _ => ?_|refine zzj (fun _ => ?_) fun _ => ?_))
      exact hbad hz _ hw.below
    · (repeat' (first|refine zza ?_|refine zc9 ?_|refine zzb fun w hw => ?_|refine zzh fun _ => ?_|refine zzi fun _ _ => ?_|refine zzj (fun _ => ?_) fun _ => ?_))
      exact hbad hz _ hw.below
  | some kj =>
    obtain ⟨hkj, hwl, hcells, ⟨k1, ho0, hmany⟩, hgr, hB⟩ := hyes kj rfl
    have hZr := (hyes0 k1 ho0).2
    subst hcells
    clear hyes hno hno0 hyes0
    dsimp only [posV]
    by_cases hlt : j < nn
    · have hsn := many_snoc (p := bindP) j (body.drop k1)
      rw [hmany] at hsn
      simp only at hsn
      clear hmany
      obtain ⟨Y, hY⟩ : ∃ Y, bindP (body.drop kj) = Y := ⟨_, rfl⟩
      rw [hY] at hsn
      have hnoZ : Y = none → Z = none := fun h => by
        subst h
        rw [← hZr]; unfold restB; rw [many_none hsn nn hlt]
      clear hZr
      unfold bindP at hY
      cases hq : belowP 12 (body.drop kj) with
      | none =>
        rw [hq] at hY
        have hz := hnoZ hY.symm
        have hs0 := small_none hq
        (repeat' (first|refine zza ?_|refine zc9 ?_|refine zzb fun w hw => ?_|refine zzh fun _ => ?_|refine zzi fun _ _ => ?_|refine zzj (fun _ => ?_) fun _ => ?_))
        (apply WL_callV; rfl; rfl; rfl; (intro W hW; exact ref_small body kj 12 hbl hkj (by decide) W))
        rw [hs0]
        dsimp only
        (repeat' (first|refine zza ?_|refine zc9 ?_|refine zzb fun w hw => ?_|refine zzh fun _ => ?_|refine zzi fun _ _ => ?_|refine zzj (fun _ => ?_) fun _ => ?_))
        exact hbad hz _ hw.below
      | some q =>
        obtain ⟨nl, r⟩ := q
        rw [hq] at hY
        simp only at hY
        obtain ⟨y0, y1⟩ := (below_dec hq).2
        obtain ⟨k2, hk2, rfl⟩ := below_at hq hkj
        have hs0 := small_some hq hk2
        obtain ⟨nm, rfl⟩ := Int.eq_ofNat_of_zero_le y0
        rw [Int.toNat_natCast, List.length_drop, List.drop_drop] at hY
        by_cases hshort : body.length - k2 < nm
        · rw [if_pos hshort] at hY
          have hz := hnoZ hY.symm
          (repeat' (first|refine zza ?_|refine zc9 ?_|refine zzb fun w hw => ?_|refine zzh fun _ => ?_|refine zzi fun _ _ => ?_|refine zzj (fun _ => ?_) fun _ => ?_))
          (apply WL_callV; rfl; rfl; rfl; (intro W hW; exact ref_small body kj 12 hbl hkj (by decide) W))
          rw [hs0]
          dsimp only
          (repeat' (first|refine zza ?_|refine zc9 ?_|refine zzb fun w hw => ?_|refine zzh fun _ => ?_|refine zzi fun _ _ => ?_|refine zzj (fun _ => ?_) fun _ => ?_))
          exact hbad hz _ hw.below
        · rw [if_neg hshort] at hY
          have hk3 : k2 + nm ≤ body.length := by omega
          have hcast : (k2 : Int) + (nm : Int) = ((k2 + nm : Nat) : Int) := by omega
          obtain ⟨N, hN⟩ : ∃ N, (body.take (k2 + nm)).drop k2 = N := ⟨_, rfl⟩
          have hN2 : (body.drop k2).take nm = N := by rw [← hN, List.drop_take, Nat.add_sub_cancel_left]
          rw [hN2] at hY
          have hNl : N.length ≤ 12 := by rw [← hN2]; exact Nat.le_trans (List.length_take_le _ _) (by omega)
          (repeat' (first|refine zza ?_|refine zc9 ?_|refine zzb fun w hw => ?_|refine zzh fun _ => ?_|refine zzi fun _ _ => ?_|refine zzj (fun _ => ?_) fun _ => ?_))
          (apply WL_callV; rfl; rfl; rfl; (intro W hW; exact ref_small body kj 12 hbl hkj (by decide) W))
          rw [hs0]
          dsimp only
          (repeat' (first|refine zza ?_|refine zc9 ?_|refine zzb fun w hw => ?_|refine zzh fun _ => ?_|refine zzi fun _ _ => ?_|refine zzj (fun _ => ?_) fun _ => ?_))
          rw [hcast, hN]
          clear hs0 hq hcast hN hN2 hshort y0 y1
          cases hv : valP (body.drop (k2 + nm)) with
          | none =>
            rw [hv] at hY
            have hz := hnoZ hY.symm
            (apply WL_callX; rfl; rfl; rfl; (intro W hW; exact lv_bad body (k2 + nm) hbl hk3 W hv); intro _ _)
            rename_i xx _
            obtain ⟨ch, p1, p2, n1, c1, n2, c2⟩ := xx
            dsimp only
            clear hv hnoZ
            (repeat' (first|refine zza ?_|refine zc9 ?_|refine zzb fun w hw => ?_|refine zzh fun _ => ?_|refine zzi fun _ _ => ?_|refine zzj (fun _ => ?_) fun _ => ?_))
            rename_i b54 q2 c3
            refine EX_loop' (j + 1, none, Gx, [], q2, c3, ws.flatMap bindE ++ [.string ⟨N.toArray⟩, .bool ch, .slice p1 n1 c1, .slice p2 n2 c2]) ⟨zcov, ?_, by dsimp only; omega, by dsimp only; omega, fun _ => hz, fun kj h => (by cases h)⟩
            exact zent
          | some q =>
            obtain ⟨⟨ch, s, d⟩, r⟩ := q
            rw [hv] at hY
            simp only at hY
            obtain ⟨k3, hk3', rfl⟩ := val_at hv hk3
            subst hY
            simp only at hsn
            refine WL_callG (m1 := []) (r := [sl 89 4 p j c (ws.flatMap bindE)]) zent rfl rfl rfl (fun W fp hW hO hS hF => lv_ok body (k2 + nm) hbl hk3 W hk3' hv Gx fp hO hS) ?_
            rintro ⟨G2, sV, dV⟩ ⟨hs1, hd1, hVR⟩ hg2
            dsimp only at hs1 hd1 hVR hg2 ⊢
            clear hv hnoZ
            (repeat' (first|refine zza ?_|refine zc9 ?_|refine zzb fun w hw => ?_|refine zzh fun _ => ?_|refine zzi fun _ _ => ?_|refine zzj (fun _ => ?_) fun _ => ?_))
            rename_i b54 q2 c3
            refine EX_loop' (j + 1, some k3, G2, ws ++ [⟨N, ch, sV, dV⟩], q2, c3, ws.flatMap bindE ++ bindE ⟨N, ch, sV, dV⟩) ⟨zcov, ?_, by dsimp only; omega, by dsimp only; omega, fun h => (by cases h), fun kj h => ?_⟩
            · exact zent
            · injection h with h
              subst h
              refine ⟨hk3', by simp [hwl], by simp, ⟨k1, ho0, ?_⟩, Rd.grow_tr hgr hg2, ?_⟩
              · dsimp only
                rw [List.map_append, hsn, ← hs1, ← hd1]
                rfl
              · intro y hy
                rcases List.mem_append.1 hy with h | h
                · exact (hB y h).mono hg2.1
                · rw [List.mem_singleton.1 h]
                  exact ⟨by show N.length ≤ 4294967280; omega, hVR.shape, hVR.data, hVR.shapeR, hVR.dataR⟩
    · have hjn : j = nn := by omega
      subst hjn
      subst hwl
      unfold restB at hZr
      rw [hmany] at hZr
      simp only at hZr
      clear hmany
      by_cases hend : kj < body.length
      · rw [if_neg (fun h => by have := congrArg List.length h.1; rw [List.length_drop] at this; simp at this; omega)] at hZr
        (repeat' (first|refine zza ?_|refine zc9 ?_|refine zzb fun w hw => ?_|refine zzh fun _ => ?_|refine zzi fun _ _ => ?_|refine zzj (fun _ => ?_) fun _ => ?_))
        exact hbad hZr.symm _ hw.below
      · have hke : kj = body.length := by omega
        subst hke
        by_cases hsp : spaceF (ws.map BindM.bnd) = 0
        · rw [if_pos ⟨List.drop_length, hsp⟩] at hZr
          subst hZr
          (repeat' (first|refine zza ?_|refine zc9 ?_|refine zzb fun w hw => ?_|refine zzh fun _ => ?_|refine zzi fun _ _ => ?_|refine zzj (fun _ => ?_) fun _ => ?_))
          (apply WL_callV; rfl; rfl; rfl; (intro W hW; exact ref_SpaceFault p c ws W (row_sl (enc := bindE) (sz := 4) (fun _ => rfl) (by decide) hW .here).2 (fun y hy => (hB y hy).mono (hW.le (.there .here)))))
          rw [hsp]
          (repeat' (first|refine zza ?_|refine zc9 ?_|refine zzb fun w hw => ?_|refine zzh fun _ => ?_|refine zzi fun _ _ => ?_|refine zzj (fun _ => ?_) fun _ => ?_))
          obtain ⟨G', g', r', h'⟩ := Holds.toRo (enc := bindE) (sz := 4) (fun _ => rfl) (by decide) (hw.ent (m' := [ro _ [] Gx, sl 89 4 p ws.length c (ws.flatMap bindE)]) zent) (fun f hf i hi => by cases hi)
          have hle := h'.le .here
          exact ⟨p, c, ws, by rw [hr], by rw [hr], r'.mono hle, fun x hx => ((hB x hx).mono g'.1).mono hle, h'.below⟩
        · rw [if_neg (fun h => hsp h.2)] at hZr
          (repeat' (first|refine zza ?_|refine zc9 ?_|refine zzb fun w hw => ?_|refine zzh fun _ => ?_|refine zzi fun _ _ => ?_|refine zzj (fun _ => ?_) fun _ => ?_))
          (apply WL_callV; rfl; rfl; rfl; (intro W hW; exact ref_SpaceFault p c ws W (row_sl (enc := bindE) (sz := 4) (fun _ => rfl) (by decide) hW .here).2 (fun y hy => (hB y hy).mono (hW.le (.there .here)))))
          (repeat' (first|refine zza ?_|refine zc9 ?_|refine zzb fun w hw => ?_|refine zzh fun _ => ?_|refine zzi fun _ _ => ?_|refine zzj (fun _ => ?_) fun _ => ?_))
          exact hbad hZr.symm _ hw.below
end Go.Proofs.YtdnkapfcnapadaaGreatDoor

namespace Go.Proofs.YtdnkapfcnapadaaGreatDoor
open Go.RowKit

theorem load_N (l : List UInt8) (hl : l.length ≤ 1099511627776) (w : World) : Calls Tryz.prog 15 #[.string ⟨l.toArray⟩] w fun e w' => ∃ x : Option Addr × Nat × List BindM, e = .returned (.tuple #[.slice x.1 x.2.2.length x.2.1, .int .i64 (loadF l).1]) ∧ Below w.heap.size w w' ∧ (x.2.2.map BindM.bnd = (loadF l).2 ∧ Row bindE 4 w'.cell? x.1 x.2.1 x.2.2 ∧ ∀ b ∈ x.2.2, BindG w'.cell? b) :=
  (ref_Loaded l w hl).mono fun _ _ ⟨p, c, ws, h1, h2, h3, h4, h5⟩ => ⟨(p, c, ws), h2, h5, h1, h3, h4⟩
theorem read_G (l : List UInt8) (hl : l.length ≤ 1099511627776) (w : World) (hG : GlobA w) (G : Rd) (hle : Rd.le G w.cell?) : Calls Tryz.prog 16 #[.string ⟨l.toArray⟩] w fun e w' => ∃ x : Option Addr × Nat × List BindM, e = .returned (.tuple #[.slice x.1 x.2.2.length x.2.1, errV 25 (loadF l).1]) ∧ Below w.heap.size w w' ∧ (Rd.le G w'.cell? ∧ x.2.2.map BindM.bnd = (loadF l).2 ∧ Row bindE 4 w'.cell? x.1 x.2.1 x.2.2 ∧ ∀ b ∈ x.2.2, BindG w'.cell? b) :=
  (read_N l hl w hG).mono fun _ _ ⟨x, h1, h2, h3⟩ => ⟨x, h1, h2, fun a v e => cell_below h2 (hle a v e), h3⟩
set_option maxHeartbeats 4000000 in
set_option maxRecDepth 100000 in
theorem law_SaveReads (s : List UInt8) (hsl : s.length ≤ 1048576) (w : World) (hG : GlobA w) (hH : Handle w) :
    Calls Tryz.prog 4 #[.string ⟨s.toArray⟩] w fun e w' => e = .returned (.bool true) ∧ Below w.heap.size w w' := by
  refine enterR (G := w.cell?) (args := [_]) (m := []) (Rd.sub_cell w) rfl Tryz.func4 rfl Tryz.ntmps4 (by simp) ?_
  (repeat' (first|refine zza ?_|refine zc9 ?_|refine zzb fun w hw => ?_|refine zzh fun _ => ?_|refine zzi fun _ _ => ?_|refine zzj (fun _ => ?_) fun _ => ?_))
  (apply WL_callV; rfl; rfl; rfl; (intro W hW; exact law_saved W (hG.below hW.below)))
  (repeat' (first|refine zza ?_|refine zc9 ?_|refine zzb fun w hw => ?_|refine zzh fun _ => ?_|refine zzi fun _ _ => ?_|refine zzj (fun _ => ?_) fun _ => ?_))
  refine WL_callN rfl rfl rfl rfl (fun W hW => load_N s (by omega) W) ?_
  obtain ⟨⟨x, zs⟩, hx⟩ : ∃ y, loadF s = y := ⟨_, rfl⟩
  rintro w1 ⟨q, c2, us⟩ ⟨h1, h2, h3⟩ hb1
  rw [hx] at h1 ⊢
  dsimp only at h1 h2 h3 ⊢
  (repeat' (first|refine zza ?_|refine zc9 ?_|refine zzb fun w hw => ?_|refine zzh fun _ => ?_|refine zzi fun _ _ => ?_|refine zzj (fun _ => ?_) fun _ => ?_))
  refine WL_callN rfl rfl rfl rfl (fun W hW => read_G s (by omega) W (hG.below hW.below) w1.cell? (hW.le .here)) ?_
  rintro w2 ⟨p, c, vs⟩ ⟨hle, g1, g2, g3⟩ hb2
  rw [hx] at g1 ⊢
  dsimp only at g1 g2 g3 ⊢
  clear hx
  have he := g1.trans h1.symm
  have hul : us.length = vs.length := by have := congrArg List.length he; simpa using this.symm
  clear h1 g1
  rw [hul]
  (repeat' (first|refine zza ?_|refine zc9 ?_|refine zzb fun w hw => ?_|refine zzh fun _ => ?_|refine zzi fun _ _ => ?_|refine zzj (fun _ => ?_) fun _ => ?_))
  (apply WL_callV; rfl; rfl; rfl; (intro W hW; exact same_Error x x W (hH.below hW.below)))
  (repeat' (first|refine zza ?_|refine zc9 ?_|refine zzb fun w hw => ?_|refine zzh fun _ => ?_|refine zzi fun _ _ => ?_|refine zzj (fun _ => ?_) fun _ => ?_))
  (apply WL_callV; rfl; rfl; rfl; (intro W hW; exact same_Space p q c c2 vs us vs.length rfl W (g2.mono (hW.le .here)) ((h2.mono hle).mono (hW.le .here)) (fun b hb => (g3 b hb).mono (hW.le .here)) (fun b hb => ((h3 b hb).mono hle).mono (hW.le .here)) he))
  (repeat' (first|refine zza ?_|refine zc9 ?_|refine zzb fun w hw => ?_|refine zzh fun _ => ?_|refine zzi fun _ _ => ?_|refine zzj (fun _ => ?_) fun _ => ?_))
  exact ⟨by simp, hw.below⟩
theorem open_SaveReads (l : List UInt8) (w : World) (hl : l.length ≤ 1048576) (L : LaidOk w) :
    Calls Tryz.prog 4 #[.string ⟨l.toArray⟩] w fun e w' => e = .returned (.bool true) ∧ Below w.heap.size w w' :=
  law_SaveReads l hl w L.glob L.hand
end Go.Proofs.YtdnkapfcnapadaaGreatDoor
