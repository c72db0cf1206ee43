/-
  save's reader: values as a thing to be read.
  save's reader: all of it.
  save.Read.
-/
import Derived.Test.YtdnkapfcnapadaaGreatDoorGo
import Derived.Test.YtdnkapfcnapadaaGreatDoorSaveR3
import Derived.Test.YtdnkapfcnapadaaGreatDoorSaveSpace
import Derived.Test.YtdnkapfcnapadaaGreatDoorSameInts
import Derived.Test.YtdnkapfcnapadaaGreatDoorSave3
import Derived.Test.YtdnkapfcnapadaaGreatDoorAnyL
namespace Go.Proofs.YtdnkapfcnapadaaGreatDoor
open Go.RowKit

theorem addr_block (g i j : Nat) : ((addrAt (some ⟨g, 0, none⟩) i).add j).block = g := by
  unfold addrAt
  show (((⟨g, 0, none⟩ : Addr).add i).add j).block = g
  rw [Go.Deep.add_add]
  unfold Addr.add
  split <;> rfl
/-- an own slice is only read from here on -/
theorem Holds.toRo {α : Type} {enc : α → List Value} {sz : Nat} (hs : ∀ x, (enc x).length = sz) (h0 : 0 < sz) {w0 w : World} {F : List Nat} {G : Rd} {e : TypeId} {n c : Nat} {p : Option Addr} {xs : List α} {r : List HP}
    (hh : Holds w0 F (ro w0 F G :: sl e sz p n c (xs.flatMap enc) :: r) w) (hF : ∀ fp, Own r fp w → ∀ i ∈ F, i ∈ fp) :
    ∃ G', Rd.grow w0 G G' ∧ Row enc sz G' p c xs ∧ Holds w0 F (ro w0 F G' :: r) w := by
  have hrow := (row_sl hs h0 hh (.there .here)).2
  have hF0 : ∀ fp, (sl e sz p n c (xs.flatMap enc)).p w fp → ∀ i ∈ fp, w0.heap.size ≤ i := by
    rintro fp ⟨rfl, _⟩ i hi
    obtain ⟨fp0, ⟨fG, f12, rfl, hG, ⟨f1, f2, rfl, ⟨hf1, _⟩, h2, hd2⟩, hd⟩, hFF⟩ := hh.own
    refine Nat.le_of_not_lt fun hlt => ?_
    have hi1 : i ∈ f1 := by rw [hf1]; exact hi
    exact hd2 i hi1 (hF _ h2 i (hFF i (by simp [hi1]) hlt))
  obtain ⟨fp, ⟨hfp, hown⟩, hb, hn, hsp⟩ := hh.freeze hF0
  refine ⟨fun a => if a.block ∈ fp then w.cell? a else G a, ⟨fun a v ea => ?_, fun a v ea => ?_⟩, ⟨hrow.le, hrow.max, hrow.some', fun i x hx j v hv => ?_⟩, hsp _ fun a v ea => ?_⟩
  · show (if a.block ∈ fp then _ else _) = _
    rw [if_neg (hn a v ea)]; exact ea
  · by_cases h : a.block ∈ fp
    · exact .inr (hb _ h).1
    · simp only [if_neg h] at ea; exact .inl ea
  · have hc := hrow.cell i x hx j v hv
    have hblk : ((addrAt p (i * sz)).add j).block ∈ fp := by
      rcases hown.2 with ⟨hv', h00⟩ | ⟨g, cap, cur, hv', _⟩
      · have hn' : n = xs.length := (row_sl hs h0 hh (.there .here)).1
        have : xs = [] := List.eq_nil_of_length_eq_zero (by omega)
        subst this
        simp at hx
      · simp only [Value.slice.injEq] at hv'
        obtain ⟨rfl, _, rfl⟩ := hv'
        rw [addr_block, hfp]
        simp [blkOf]
    show (if _ ∈ fp then _ else _) = _
    rw [if_pos hblk]; exact hc
  · by_cases h : a.block ∈ fp
    · simp only [if_pos h] at ea; exact .inr ⟨h, ea⟩
    · simp only [if_neg h] at ea; exact .inl ea
/-- what is known of a value that was read -/
structure ValR (G : Rd) (s d : SlV Int) : Prop where
  shape : Row encI 1 G s.p s.c s.xs
  data : Row encI 1 G d.p d.c d.xs
  shapeR : ∀ n ∈ s.xs, I64 n
  dataR : ∀ n ∈ d.xs, I64 n
theorem own_rdr {b : Nat} {l : List UInt8} {k : Nat} {w : World} {fp : List Nat} (h : Own [rdr b l k] fp w) : fp = [b] := by
  obtain ⟨f1, f2, rfl, ⟨rfl, _⟩, h2, _⟩ := h
  simp only [Own] at h2
  subst h2
  rfl
section
variable (b : Nat) (l : List UInt8) (k : Nat) (hk : k ≤ l.length) (hl : l.length ≤ 1099511627776) (G : Rd) (w : World) (fp : List Nat) (hO : Own [rdr b l k] fp w) (hS : Rd.sub G fp w)
include hk hl hO hS
theorem value_bad (h : valP (l.drop k) = none) : Calls Tryz.prog 80 #[.pointer (some ⟨b, 0, none⟩)] w fun e w' => e = .panicked brkP ∧ Keep w fp w' :=
  (save_value' b l k hk hl G w fp hO hS).mono fun e w' hq => by
    rcases hq with ⟨ch, s, d, k', p, q, c, c2, h1, h2, _⟩ | ⟨_, h2⟩
    · rw [h] at h2; cases h2
    · exact h2
theorem value_ok {ch : Bool} {s d : List Int} {k' : Nat} (hk' : k' ≤ l.length) (h : valP (l.drop k) = some ((ch, s, d), l.drop k')) : Calls Tryz.prog 80 #[.pointer (some ⟨b, 0, none⟩)] w fun e w' =>
    ∃ z : Rd × SlV Int × SlV Int, (z.2.1.xs = s ∧ z.2.2.xs = d ∧ ValR z.1 z.2.1 z.2.2) ∧ e = .returned (.agg #[.bool ch, .slice z.2.1.p z.2.1.xs.length z.2.1.c, .slice z.2.2.p z.2.2.xs.length z.2.2.c]) ∧ Rd.grow w G z.1 ∧ Holds w fp (ro w fp z.1 :: [rdr b l k']) w' :=
  (save_value' b l k hk hl G w fp hO hS).mono fun e w' hq => by
    rcases hq with ⟨ch', s', d', k'', p, q, c, c2, h1, h2, h3, h4⟩ | ⟨h2, _⟩
    · obtain ⟨_, _, _, _, hdr⟩ := val_dec h
      rw [h] at h2
      injection h2 with h2
      injection h2 with h5 h6
      injection h5 with h7 h8
      injection h8 with h8 h9
      have := drop_inj h6 hk' h1
      subst this h7 h8 h9
      have hfp := own_rdr hO
      subst hfp
      have hx : ∀ xs : List Int, xs.map (Value.int .i64) = xs.flatMap encI := ints_flat
      rw [hx, hx] at h4
      obtain ⟨G1, g1, r1, h5⟩ := Holds.toRo (enc := encI) (sz := 1) (fun _ => rfl) Nat.one_pos h4 (fun f hf i hi => by
        obtain ⟨f1, f2, rfl, _, hf2, _⟩ := hf
        rw [own_rdr hf2]
        exact List.mem_append.2 (.inr hi))
      obtain ⟨G2, g2, r2, h6⟩ := Holds.toRo (enc := encI) (sz := 1) (fun _ => rfl) Nat.one_pos h5 (fun f hf i hi => by rw [own_rdr hf]; exact hi)
      obtain ⟨_, _, hax, _, hdr⟩ := val_dec h
      exact ⟨(G2, ⟨p, c, s⟩, ⟨q, c2, d⟩), ⟨rfl, rfl, ⟨r1.mono g2.1, r2, fun n hn => by have := hax n hn; unfold I64; omega, hdr⟩⟩, h3, Rd.grow_tr g1 g2, h6⟩
    · rw [h] at h2; cases h2
end
end Go.Proofs.YtdnkapfcnapadaaGreatDoor

namespace Go.Proofs.YtdnkapfcnapadaaGreatDoor
open Go.RowKit

theorem binds_at {l : List UInt8} {k : Nat} : ∀ {n : Nat} {xs : List Bnd} {r : List UInt8}, manyP bindP n (l.drop k) = some (xs, r) → k ≤ l.length → ∃ k', k' ≤ l.length ∧ r = l.drop k' := fun h hk => by
  obtain ⟨h1, h2, h3⟩ := many_dec (enc := bindB) (ok := BindOk) (fun l x r hx => bind_dec hx) _ _ _ _ h
  obtain ⟨h4, h5⟩ := drop_app h1 hk
  exact ⟨_, h5, h4⟩
theorem val_at {l r : List UInt8} {k : Nat} {v : Bool × List Int × List Int} (h : valP (l.drop k) = some (v, r)) (hk : k ≤ l.length) : ∃ k', k' ≤ l.length ∧ r = l.drop k' := by
  obtain ⟨c, s, d⟩ := v
  obtain ⟨h1, h2⟩ := drop_app (val_dec h).1 hk
  exact ⟨_, h2, h1⟩
def ReadGot (b : Nat) (l : List UInt8) (G : Rd) (w : World) (fp : List Nat) (Z : Option (List Bnd)) (e : Ending) (w' : World) : Prop :=
  (∃ z : Rd × List BindM × Option Addr × Nat, (Z = some (z.2.1.map BindM.bnd) ∧ Row bindE 4 z.1 z.2.2.1 z.2.2.2 z.2.1 ∧ ∀ x ∈ z.2.1, BindG z.1 x) ∧ e = .returned (.slice z.2.2.1 z.2.1.length z.2.2.2) ∧ Rd.grow w G z.1 ∧ Holds w fp (ro w fp z.1 :: [rdr b l l.length]) w') ∨
  (Z = none ∧ e = .panicked brkP ∧ Keep w fp w')
set_option maxHeartbeats 8000000 in
set_option maxRecDepth 100000 in
theorem save_read (b : Nat) (l : List UInt8) (hl : l.length ≤ 1099511627776) (G : Rd) (w : World) (fp : List Nat) (hO : Own [rdr b l 0] fp w) (hS : Rd.sub G fp w) (hGl : ∀ W, Keep w fp W → GlobA W) :
    Calls Tryz.prog 44 #[.pointer (some ⟨b, 0, none⟩)] w (ReadGot b l G w fp (bodyP l)) := by
  obtain ⟨Z, hZ⟩ : ∃ Z, bodyP l = Z := ⟨_, rfl⟩
  rw [hZ]
  have hfp := own_rdr hO
  unfold bodyP bindsP at hZ
  rw [show l = l.drop 0 from rfl] at hZ
  refine enterR (args := [_]) hS hO Tryz.func44 rfl Tryz.ntmps44 (by simp) ?_
  clear hO hS
  cases hb : belowP 20 (l.drop 0) with
  | none =>
    rw [hb] at hZ
    simp only at hZ
    subst hZ
    (repeat' (first|refine zza ?_|refine zc9 ?_|refine zzb fun w hw => ?_|refine zzh fun _ => ?_|refine zzi fun _ _ => ?_|refine zzj (fun _ => ?_) fun _ => ?_))
    (apply WL_callUP1 (h := rdr b l 0); (first | exact .here | exact .there .here | exact .there (.there .here) | exact .there (.there (.there .here)) | exact .there (.there (.there (.there .here))) | exact .there (.there (.there (.there (.there .here)))) | exact .there (.there (.there (.there (.there (.there .here)))))); (first | exact .here | exact .there .here | exact .there (.there .here) | exact .there (.there (.there .here)) | exact .there (.there (.there (.there .here))) | exact .there (.there (.there (.there (.there .here)))) | exact .there (.there (.there (.there (.there (.there .here)))))); rfl; rfl; rfl; (intro W fp hO hS; exact below_bad b l 0 hl G W fp hO hS (m := 20) (by decide) (Nat.zero_le _) hb))
    (repeat' (first|refine zza ?_|refine zc9 ?_|refine zzb fun w hw => ?_|refine zzh fun _ => ?_|refine zzi fun _ _ => ?_|refine zzj (fun _ => ?_) fun _ => ?_))
    exact .inr ⟨rfl, rfl, hw.keep⟩
  | some q =>
    obtain ⟨n, r⟩ := q
    rw [hb] at hZ
    simp only at hZ
    obtain ⟨n0, n20⟩ := (below_dec hb).2
    obtain ⟨k1, hk1, rfl⟩ := below_at hb (Nat.zero_le _)
    obtain ⟨nn, rfl⟩ := Int.eq_ofNat_of_zero_le n0
    rw [Int.toNat_natCast] at hZ
    (repeat' (first|refine zza ?_|refine zc9 ?_|refine zzb fun w hw => ?_|refine zzh fun _ => ?_|refine zzi fun _ _ => ?_|refine zzj (fun _ => ?_) fun _ => ?_))
    (apply WL_callU1 (h := rdr b l 0); (first | exact .here | exact .there .here | exact .there (.there .here) | exact .there (.there (.there .here)) | exact .there (.there (.there (.there .here))) | exact .there (.there (.there (.there (.there .here)))) | exact .there (.there (.there (.there (.there (.there .here)))))); (first | exact .here | exact .there .here | exact .there (.there .here) | exact .there (.there (.there .here)) | exact .there (.there (.there (.there .here))) | exact .there (.there (.there (.there (.there .here)))) | exact .there (.there (.there (.there (.there (.there .here)))))); rfl; rfl; rfl; (intro W fp hO hS; exact below_ok b l 0 hl G W fp hO hS (m := 20) (by decide) hk1 hb))
    clear hb
    (repeat' (first|refine zza ?_|refine zc9 ?_|refine zzb fun w hw => ?_|refine zzh fun _ => ?_|refine zzi fun _ _ => ?_|refine zzj (fun _ => ?_) fun _ => ?_))
    refine CW_ent (m' := [sl 89 4 none 0 0 [], rdr b l k1, ro w fp G]) (Ent.nilown zent) ?_
    refine CW_loopK [(0,_),(6,_)] zcov (fun x : Nat × Nat × Rd × List BindM × Option Addr × Nat => [(7, .int .i64 (x.1 : Nat)), (2, .slice x.2.2.2.2.1 x.1 x.2.2.2.2.2)]) (fun x => [sl 89 4 x.2.2.2.2.1 x.1 x.2.2.2.2.2 (x.2.2.2.1.flatMap bindE), rdr b l x.2.1, ro w fp x.2.2.1]) (fun x => x.2.2.2.1.length = x.1 ∧ x.1 ≤ nn ∧ x.2.1 ≤ l.length ∧ manyP bindP x.1 (l.drop k1) = some (x.2.2.2.1.map BindM.bnd, l.drop x.2.1) ∧ Rd.grow w G x.2.2.1 ∧ ∀ y ∈ x.2.2.2.1, BindG x.2.2.1 y) (fun x => nn - x.1) (0, k1, G, [], none, 0) ⟨rfl, Nat.zero_le _, hk1, rfl, Rd.grow_refl _ _, by simp⟩ zcov zent ?_
    rintro ⟨j, kj, Gx, ws, p, c⟩ ⟨hwl, hj, hkj, hmany, hgr, hB⟩
    dsimp only at hwl hj hkj hmany hgr hB ⊢
    by_cases hlt : j < nn
    · have hsn := many_snoc (p := bindP) j (l.drop k1)
      rw [hmany] at hsn
      simp only at hsn
      clear hmany
      obtain ⟨Y, hY⟩ : ∃ Y, bindP (l.drop kj) = Y := ⟨_, rfl⟩
      rw [hY] at hsn
      have hno : Y = none → Z = none := fun h => by
        subst h
        rw [many_none hsn nn hlt] at hZ
        exact hZ.symm
      clear hZ
      unfold bindP at hY
      cases hq : belowP 12 (l.drop kj) with
      | none =>
        rw [hq] at hY
        have hz := hno hY.symm
        subst hz
        (repeat' (first|refine zza ?_|refine zc9 ?_|refine zzb fun w hw => ?_|refine zzh fun _ => ?_|refine zzi fun _ _ => ?_|refine zzj (fun _ => ?_) fun _ => ?_))
        (apply WL_callUP1 (h := rdr b l kj); (first | exact .here | exact .there .here | exact .there (.there .here) | exact .there (.there (.there .here)) | exact .there (.there (.there (.there .here))) | exact .there (.there (.there (.there (.there .here)))) | exact .there (.there (.there (.there (.there (.there .here)))))); (first | exact .here | exact .there .here | exact .there (.there .here) | exact .there (.there (.there .here)) | exact .there (.there (.there (.there .here))) | exact .there (.there (.there (.there (.there .here)))) | exact .there (.there (.there (.there (.there (.there .here)))))); rfl; rfl; rfl; (intro W fp hO hS; exact below_bad b l kj hl Gx W fp hO hS (m := 12) (by decide) hkj hq))
        (repeat' (first|refine zza ?_|refine zc9 ?_|refine zzb fun w hw => ?_|refine zzh fun _ => ?_|refine zzi fun _ _ => ?_|refine zzj (fun _ => ?_) fun _ => ?_))
        exact .inr ⟨rfl, rfl, hw.keep⟩
      | some q =>
        obtain ⟨nl, r⟩ := q
        rw [hq] at hY
        simp only at hY
        obtain ⟨y0, y1⟩ := (below_dec hq).2
        obtain ⟨k2, hk2, rfl⟩ := below_at hq hkj
        obtain ⟨nm, rfl⟩ := Int.eq_ofNat_of_zero_le y0
        rw [Int.toNat_natCast, List.length_drop, List.drop_drop] at hY
        by_cases hshort : l.length - k2 < nm
        · rw [if_pos hshort] at hY
          have hz := hno hY.symm
          subst hz
          (repeat' (first|refine zza ?_|refine zc9 ?_|refine zzb fun w hw => ?_|refine zzh fun _ => ?_|refine zzi fun _ _ => ?_|refine zzj (fun _ => ?_) fun _ => ?_))
          (apply WL_callU1 (h := rdr b l kj); (first | exact .here | exact .there .here | exact .there (.there .here) | exact .there (.there (.there .here)) | exact .there (.there (.there (.there .here))) | exact .there (.there (.there (.there (.there .here)))) | exact .there (.there (.there (.there (.there (.there .here)))))); (first | exact .here | exact .there .here | exact .there (.there .here) | exact .there (.there (.there .here)) | exact .there (.there (.there (.there .here))) | exact .there (.there (.there (.there (.there .here)))) | exact .there (.there (.there (.there (.there (.there .here)))))); rfl; rfl; rfl; (intro W fp hO hS; exact below_ok b l kj hl Gx W fp hO hS (m := 12) (by decide) hk2 hq))
          clear hq
          (repeat' (first|refine zza ?_|refine zc9 ?_|refine zzb fun w hw => ?_|refine zzh fun _ => ?_|refine zzi fun _ _ => ?_|refine zzj (fun _ => ?_) fun _ => ?_))
          refine CW_seq ?_
          (repeat' (first|refine zza ?_|refine zc9 ?_|refine zzb fun w hw => ?_|refine zzh fun _ => ?_|refine zzi fun _ _ => ?_|refine zzj (fun _ => ?_) fun _ => ?_))
          exact .inr ⟨rfl, rfl, hw.keep⟩
        · rw [if_neg hshort] at hY
          (repeat' (first|refine zza ?_|refine zc9 ?_|refine zzb fun w hw => ?_|refine zzh fun _ => ?_|refine zzi fun _ _ => ?_|refine zzj (fun _ => ?_) fun _ => ?_))
          (apply WL_callU1 (h := rdr b l kj); (first | exact .here | exact .there .here | exact .there (.there .here) | exact .there (.there (.there .here)) | exact .there (.there (.there (.there .here))) | exact .there (.there (.there (.there (.there .here)))) | exact .there (.there (.there (.there (.there (.there .here)))))); (first | exact .here | exact .there .here | exact .there (.there .here) | exact .there (.there (.there .here)) | exact .there (.there (.there (.there .here))) | exact .there (.there (.there (.there (.there .here)))) | exact .there (.there (.there (.there (.there (.there .here)))))); rfl; rfl; rfl; (intro W fp hO hS; exact below_ok b l kj hl Gx W fp hO hS (m := 12) (by decide) hk2 hq))
          clear hq
          (repeat' (first|refine zza ?_|refine zc9 ?_|refine zzb fun w hw => ?_|refine zzh fun _ => ?_|refine zzi fun _ _ => ?_|refine zzj (fun _ => ?_) fun _ => ?_))
          refine CW_seq ?_
          (repeat' (first|refine zza ?_|refine zc9 ?_|refine zzb fun w hw => ?_|refine zzh fun _ => ?_|refine zzi fun _ _ => ?_|refine zzj (fun _ => ?_) fun _ => ?_))
          apply WB_alloc rfl rfl
          intro b4
          (repeat' (first|refine zza ?_|refine zc9 ?_|refine zzb fun w hw => ?_|refine zzh fun _ => ?_|refine zzi fun _ _ => ?_|refine zzj (fun _ => ?_) fun _ => ?_))
          obtain ⟨N, hN⟩ : ∃ N, (l.take (k2 + nm)).drop k2 = N := ⟨_, rfl⟩
          have hN2 : (l.drop k2).take nm = N := by rw [← hN, List.drop_take, Nat.add_sub_cancel_left]
          rw [hN2] at hY
          refine WL_ent (m' := [rdr b l (k2 + nm), blk b4 89 #[.string ⟨N.toArray⟩, .bool false, .slice none 0 0, .slice none 0 0], sl 89 4 p j c (ws.flatMap bindE), ro w fp Gx]) (Ent.consK .here rfl (by kernel_rfl) (Ent.consK .here rfl (by rw [← hN]; kernel_rfl) zent)) ?_
          have hk3 : k2 + nm ≤ l.length := by omega
          cases hv : valP (l.drop (k2 + nm)) with
          | none =>
            rw [hv] at hY
            have hz := hno hY.symm
            subst hz
            (apply WL_callUP1 (h := rdr b l (k2 + nm)); (first | exact .here | exact .there .here | exact .there (.there .here) | exact .there (.there (.there .here)) | exact .there (.there (.there (.there .here))) | exact .there (.there (.there (.there (.there .here)))) | exact .there (.there (.there (.there (.there (.there .here)))))); (first | exact .here | exact .there .here | exact .there (.there .here) | exact .there (.there (.there .here)) | exact .there (.there (.there (.there .here))) | exact .there (.there (.there (.there (.there .here)))) | exact .there (.there (.there (.there (.there (.there .here)))))); rfl; rfl; rfl; (intro W fp hO hS; exact value_bad b l (k2 + nm) hk3 hl Gx W fp hO hS hv))
            (repeat' (first|refine zza ?_|refine zc9 ?_|refine zzb fun w hw => ?_|refine zzh fun _ => ?_|refine zzi fun _ _ => ?_|refine zzj (fun _ => ?_) fun _ => ?_))
            exact .inr ⟨rfl, rfl, hw.keep⟩
          | some q =>
            obtain ⟨⟨ch, s, d⟩, r⟩ := q
            rw [hv] at hY
            simp only at hY
            obtain ⟨k3, hk3', rfl⟩ := val_at hv hk3
            subst hY
            simp only at hsn
            refine WL_callG (m1 := [rdr b l (k2 + nm)]) (r := [blk b4 89 #[.string ⟨N.toArray⟩, .bool false, .slice none 0 0, .slice none 0 0], sl 89 4 p j c (ws.flatMap bindE)]) zent rfl rfl rfl (fun W fp hW hO hS hF => value_ok b l (k2 + nm) hk3 hl Gx W fp hO hS hk3' hv) ?_
            rintro ⟨G2, sV, dV⟩ ⟨hs1, hd1, hVR⟩ hg2
            dsimp only at hs1 hd1 hVR hg2 ⊢
            clear hv hno
            (repeat' (first|refine zza ?_|refine zc9 ?_|refine zzb fun w hw => ?_|refine zzh fun _ => ?_|refine zzi fun _ _ => ?_|refine zzj (fun _ => ?_) fun _ => ?_))
            rename_i b54 q2 c3
            refine EX_loop' (j + 1, k3, G2, ws ++ [⟨N, ch, sV, dV⟩], q2, c3) ⟨zcov, ?_, by dsimp only; omega, by simp [hwl], by dsimp only; omega, hk3', ?_, Rd.grow_tr hgr hg2, ?_⟩
            · have e : (ws ++ [(⟨N, ch, sV, dV⟩ : BindM)]).flatMap bindE = ws.flatMap bindE ++ bindE ⟨N, ch, sV, dV⟩ := by simp
              dsimp only
              rw [e]
              exact zent
            · dsimp only
              rw [List.map_append, hsn, ← hs1, ← hd1]
              rfl
            · intro y hy
              rcases List.mem_append.1 hy with h | h
              · exact (hB y h).mono hg2.1
              · rw [List.mem_singleton.1 h]
                exact ⟨by
                  have hNl : N.length ≤ nm := by rw [← hN2]; exact List.length_take_le _ _
                  show N.length ≤ 4294967280
                  omega, hVR.shape, hVR.data, hVR.shapeR, hVR.dataR⟩
    · have hjn : j = nn := by omega
      subst hjn
      subst hwl
      rw [hmany] at hZ
      simp only at hZ
      clear hmany
      by_cases hend : kj < l.length
      · rw [if_neg (fun h => by have := congrArg List.length h.1; rw [List.length_drop] at this; simp at this; omega)] at hZ
        subst hZ
        (repeat' (first|refine zza ?_|refine zc9 ?_|refine zzb fun w hw => ?_|refine zzh fun _ => ?_|refine zzi fun _ _ => ?_|refine zzj (fun _ => ?_) fun _ => ?_))
        refine CW_seq ?_
        (repeat' (first|refine zza ?_|refine zc9 ?_|refine zzb fun w hw => ?_|refine zzh fun _ => ?_|refine zzi fun _ _ => ?_|refine zzj (fun _ => ?_) fun _ => ?_))
        exact .inr ⟨rfl, rfl, hw.keep⟩
      · have hke : kj = l.length := by omega
        subst hke
        by_cases hsp : spaceF (ws.map BindM.bnd) = 0
        · rw [if_pos ⟨List.drop_length, hsp⟩] at hZ
          (repeat' (first|refine zza ?_|refine zc9 ?_|refine zzb fun w hw => ?_|refine zzh fun _ => ?_|refine zzi fun _ _ => ?_|refine zzj (fun _ => ?_) fun _ => ?_))
          refine CW_seq ?_
          (repeat' (first|refine zza ?_|refine zc9 ?_|refine zzb fun w hw => ?_|refine zzh fun _ => ?_|refine zzi fun _ _ => ?_|refine zzj (fun _ => ?_) fun _ => ?_))
          (apply WQ_callV; rfl; rfl; rfl; (intro W hW; exact eval_Check p c ws W (row_sl (enc := bindE) (sz := 4) (fun _ => rfl) (by decide) hW .here).2 (fun y hy => (hB y hy).mono (hW.le (.there (.there .here)))) (hGl W hW.keep)))
          rw [hsp, errV_zero]
          (repeat' (first|refine zza ?_|refine zc9 ?_|refine zzb fun w hw => ?_|refine zzh fun _ => ?_|refine zzi fun _ _ => ?_|refine zzj (fun _ => ?_) fun _ => ?_))
          obtain ⟨G', g', r', h'⟩ := Holds.toRo (enc := bindE) (sz := 4) (fun _ => rfl) (by decide) (hw.ent (m' := [ro _ fp Gx, sl 89 4 p ws.length c (ws.flatMap bindE), rdr b l l.length]) zent) (fun f hf i hi => by rw [own_rdr (l := l) (k := l.length) hf, ← hfp]; exact hi)
          exact .inl ⟨(G', ws, p, c), ⟨hZ.symm, r', fun x hx => (hB x hx).mono g'.1⟩, rfl, Rd.grow_tr hgr g', h'⟩
        · rw [if_neg (fun h => hsp h.2)] at hZ
          subst hZ
          (repeat' (first|refine zza ?_|refine zc9 ?_|refine zzb fun w hw => ?_|refine zzh fun _ => ?_|refine zzi fun _ _ => ?_|refine zzj (fun _ => ?_) fun _ => ?_))
          refine CW_seq ?_
          (repeat' (first|refine zza ?_|refine zc9 ?_|refine zzb fun w hw => ?_|refine zzh fun _ => ?_|refine zzi fun _ _ => ?_|refine zzj (fun _ => ?_) fun _ => ?_))
          (apply WQ_callV; rfl; rfl; rfl; (intro W hW; exact eval_Check p c ws W (row_sl (enc := bindE) (sz := 4) (fun _ => rfl) (by decide) hW .here).2 (fun y hy => (hB y hy).mono (hW.le (.there (.there .here)))) (hGl W hW.keep)))
          rw [errV_ne hsp]
          (repeat' (first|refine zza ?_|refine zc9 ?_|refine zzb fun w hw => ?_|refine zzh fun _ => ?_|refine zzi fun _ _ => ?_|refine zzj (fun _ => ?_) fun _ => ?_))
          exact .inr ⟨rfl, rfl, hw.keep⟩
end Go.Proofs.YtdnkapfcnapadaaGreatDoor

namespace Go.Proofs.YtdnkapfcnapadaaGreatDoor
open Go.RowKit

theorem results_cells2 {fn : Func} {t1 t2 : Tmp} {T1 T2 : TypeId} {P : Program} (hr : fn.results = #[.cell t1 T1, .cell t2 T2]) [S1 : NAgg P T1] [S2 : NAgg P T2] {tmps : Array Value} {w : World} {b1 b2 : Nat} (h1 : tmps.getD t1 undef = .pointer (some ⟨b1, 0, none⟩)) (h2 : tmps.getD t2 undef = .pointer (some ⟨b2, 0, none⟩))
    {v1 v2 : Value} {U1 U2 : TypeId} (c1 : w.heap[b1]? = some (.cells #[v1] U1 (0, 0))) (c2 : w.heap[b2]? = some (.cells #[v2] U2 (0, 0))) :
    (results fn tmps).run P w = .ok (.tuple #[v1, v2]) w := by
  have e1 : w.cell? ⟨b1, 0, none⟩ = some v1 := by simp [World.cell?, c1]
  have e2 : w.cell? ⟨b2, 0, none⟩ = some v2 := by simp [World.cell?, c2]
  rw [Array.getD_eq_getD_getElem?] at h1 h2
  simp [results, hr, h1, h2, loadVar, S1.agg, S2.agg, e1, e2, go_sem]
theorem Holds.all {w0 w : World} {F : List Nat} {m : List HP} (h : Holds w0 F m w) : ∃ fp, Own m fp w ∧ ∀ m' w', Holds w fp m' w' → Holds w0 F m' w' := by
  obtain ⟨fp, ho, hF⟩ := h.own
  refine ⟨fp, ho, fun m' w' k => ⟨⟨k.keep.os.trans h.keep.os, k.keep.tape.trans h.keep.tape, k.keep.output.trans h.keep.output, Nat.le_trans h.keep.size k.keep.size, fun i hi hiF => (k.keep.block i (Nat.lt_of_lt_of_le hi h.keep.size) (fun hfp => hiF (hF i hfp hi))).trans (h.keep.block i hi hiF)⟩, ?_⟩⟩
  obtain ⟨g, hg, hgl⟩ := k.own
  exact ⟨g, hg, fun i hi h0 => hF i (hgl i hi (Nat.lt_of_lt_of_le h0 h.keep.size)) h0⟩
theorem below_keep {w W W' : World} {fp : List Nat} (h : Keep w [] W) (k : Keep W fp W') (hf : ∀ i ∈ fp, w.heap.size ≤ i) : Below w.heap.size w W' :=
  ⟨k.os.trans h.os, k.tape.trans h.tape, k.output.trans h.output, Nat.le_trans h.size k.size, fun i hi => (k.block i (Nat.lt_of_lt_of_le hi h.size) (fun hm => by have := hf i hm; omega)).trans (h.block i hi (by simp))⟩
instance : ZT Tryz.prog 101 [] := ⟨_, Tryz.zeroValue101, rfl⟩
/-! ## Read's deferred call -/
set_option maxRecDepth 100000 in
theorem sread_idle (b2 b3 : Nat) (w : World) :
    CallsD Tryz.prog 43 #[.pointer (some ⟨b2, 0, none⟩), .pointer (some ⟨b3, 0, none⟩)] .returning w fun e u w' => u = .returning ∧ (e = .returned (.tuple #[]) ∧ Below w.heap.size w w') := by
  refine callsD_rec (args := [_, _]) (m := []) (F := []) Tryz.func43 rfl Tryz.ntmps43 (by simp) (by decide) (.inl ⟨rfl, rfl, rfl⟩) rfl ?_
  (repeat' (first|refine zza ?_|refine zc9 ?_|refine zzb fun w hw => ?_|refine zzh fun _ => ?_|refine zzi fun _ _ => ?_|refine zzj (fun _ => ?_) fun _ => ?_))
  exact ⟨rfl, hw.below⟩
set_option maxRecDepth 100000 in
theorem sread_catch (b2 b3 : Nat) (v2 v3 : Value) (w : World) (F : List Nat) (hm : Own [blk b2 22 #[v2], blk b3 29 #[v3]] F w) :
    CallsD Tryz.prog 43 #[.pointer (some ⟨b2, 0, none⟩), .pointer (some ⟨b3, 0, none⟩)] (.panicking brkP) w fun e u w' => u = .panicking [{ v := brkV, recovered := true }] ∧ (e = .returned (.tuple #[]) ∧ Holds w F [blk b2 22 #[.slice none 0 0], blk b3 29 #[.iface 25 (.int .i64 1)]] w') := by
  refine callsD_rec (args := [_, _]) Tryz.func43 rfl Tryz.ntmps43 (by simp) (by decide) (.inr ⟨[], rfl, rfl⟩) hm ?_
  unfold brkV
  (repeat' (first|refine zza ?_|refine zc9 ?_|refine zzb fun w hw => ?_|refine zzh fun _ => ?_|refine zzi fun _ _ => ?_|refine zzj (fun _ => ?_) fun _ => ?_))
  exact ⟨rfl, hw.ent zent⟩
/-! ## Read -/
/-- what Read tells -/
def loadF (l : List UInt8) : Int × List Bnd :=
  if l.length < 4 then (4, []) else if le4 (sumF (l.take (l.length - 4))) ≠ l.drop (l.length - 4) then (6, []) else
    match bodyP (l.take (l.length - 4)) with
    | none => (1, [])
    | some ws => (0, ws)
theorem loadF_app (body : List UInt8) (t0 t1 t2 t3 : UInt8) : loadF (body ++ [t0, t1, t2, t3]) = (if le4 (sumF body) ≠ [t0, t1, t2, t3] then (6, []) else match bodyP body with
    | none => (1, [])
    | some ws => (0, ws) : Int × List Bnd) := by
  unfold loadF
  have e : (body ++ [t0, t1, t2, t3]).length - 4 = body.length := by simp
  rw [if_neg (by simp), e, List.take_left, List.drop_left]
def LoadPost (l : List UInt8) (w : World) (e : Ending) (w' : World) : Prop :=
  ∃ (p : Option Addr) (c : Nat) (ws : List BindM), ws.map BindM.bnd = (loadF l).2 ∧ e = .returned (.tuple #[.slice p ws.length c, errV 25 (loadF l).1]) ∧ Row bindE 4 w'.cell? p c ws ∧ (∀ b ∈ ws, BindG w'.cell? b) ∧ Below w.heap.size w w'
theorem LoadPost.bad {l : List UInt8} {w w' : World} {x : Int} (h : loadF l = (x, [])) (hx : x ≠ 0) (hb : Below w.heap.size w w') : LoadPost l w (.returned (.tuple #[.slice none 0 0, .iface 25 (.int .i64 x)])) w' :=
  ⟨none, 0, [], by rw [h]; rfl, by rw [h, errV_ne hx]; rfl, Row.nil _ _ _, by simp, hb⟩
set_option maxHeartbeats 8000000 in
set_option maxRecDepth 100000 in
theorem save_Read (l : List UInt8) (w : World) (hl : l.length ≤ 1099511627776) (hG : GlobA w) :
    Calls Tryz.prog 16 #[.string ⟨l.toArray⟩] w (LoadPost l w) := by
  refine enterD (args := [_]) (m := [ro w [] w.cell?]) (F := []) Tryz.func16 rfl Tryz.ntmps16 (by simp) ⟨[], [], rfl, ⟨by simp, fun a v e => .inr ⟨cell_lt e, by simp, e⟩⟩, rfl, by simp⟩ ?_
  by_cases h4 : (l.length : Int) < 4
  · have hr : loadF l = (4, []) := by unfold loadF; rw [if_pos (by omega)]
    (repeat' (first|refine zza ?_|refine zc9 ?_|refine zzb fun w hw => ?_|refine zzh fun _ => ?_|refine zzi fun _ _ => ?_|refine zzj (fun _ => ?_) fun _ => ?_))
    refine EX_retD0 rfl fun a w' hf hm => ⟨_, results_cells2 rfl (hf.get 2 _ rfl) (hf.get 3 _ rfl) (hm.blk zpk) (hm.blk zpk), ?_⟩
    exact LoadPost.bad hr (by decide) hm.below
  obtain ⟨body, t0, t1, t2, t3, rfl⟩ : ∃ body t0 t1 t2 t3, l = body ++ [t0, t1, t2, t3] := by
    refine ⟨l.take (l.length - 4), l[l.length - 4], l[l.length - 3], l[l.length - 2], l[l.length - 1], ?_⟩
    conv => lhs; rw [← List.take_append_drop (l.length - 4) l]
    congr 1
    apply List.ext_getElem
    · simp; omega
    · intro i h1 h2
      simp only [List.length_cons, List.length_nil] at h2
      rw [List.getElem_drop]
      match i, h2 with
      | 0, _ => rfl
      | 1, _ => simp only [List.getElem_cons_succ, List.getElem_cons_zero]; congr 1; omega
      | 2, _ => simp only [List.getElem_cons_succ, List.getElem_cons_zero]; congr 1; omega
      | 3, _ => simp only [List.getElem_cons_succ, List.getElem_cons_zero]; congr 1; omega
  have hr := loadF_app body t0 t1 t2 t3
  have hlb : (body ++ [t0, t1, t2, t3]).length = body.length + 4 := by simp
  have e4 : (((body ++ [t0, t1, t2, t3]).length : Int) - 4).toNat = body.length := by rw [hlb]; omega
  rw [hlb] at hl h4
  generalize hl' : body ++ [t0, t1, t2, t3] = l' at hr hlb e4 ⊢
  (repeat' (first|refine zza ?_|refine zc9 ?_|refine zzb fun w hw => ?_|refine zzh fun _ => ?_|refine zzi fun _ _ => ?_|refine zzj (fun _ => ?_) fun _ => ?_))
  rw [e4, ← hl', List.take_left, List.drop_left]
  (apply WL_callV; rfl; rfl; rfl; (intro W hW; exact save_Sum body W (by omega)))
  have hs32 := (sumF body).isLt
  generalize hss : sumF body = s at hr hs32
  (repeat' (first|refine zza ?_|refine zc9 ?_|refine zzb fun w hw => ?_|refine zzh fun _ => ?_|refine zzi fun _ _ => ?_|refine zzj (fun _ => ?_) fun _ => ?_))
  rename_i b2 b3
  refine CW_loopK [(2,_),(3,_),(4,_),(5,_),(6,_),(26,_)] zcov (fun k : Nat => [(27, .int .i64 k)]) (fun _ => [blk b3 29 #[.nilIface], blk b2 22 #[.slice none 0 0], ro w [] w.cell?]) (fun k => k ≤ 4 ∧ (le4 s).take k = [t0, t1, t2, t3].take k) (fun k => 4 - k) 0 ⟨by omega, rfl⟩ zcov zent ?_
  rintro k ⟨hk, hpre⟩
  by_cases hk4 : k < 4
  · rcases (by omega : k = 0 ∨ k = 1 ∨ k = 2 ∨ k = 3) with rfl | rfl | rfl | rfl
    · have e8 : Hid (((s.toNat : Int) / 2 ^ 0) % 256 = ((UInt8.ofNat (s.toNat)).toNat : Int)) := by unfold Hid; rw [UInt8.toNat_ofNat']; omega
      (repeat' (first|refine zza ?_|refine zc9 ?_|refine zzb fun w hw => ?_|refine zzh fun _ => ?_|refine zzi fun _ _ => ?_|refine zzj (fun _ => ?_) fun _ => ?_))
      apply WQ_op rfl rfl (y_shr (n := 0) rfl rfl rfl)
      (repeat' (first|refine zza ?_|refine zc9 ?_|refine zzb fun w hw => ?_|refine zzh fun _ => ?_|refine zzi fun _ _ => ?_|refine zzj (fun _ => ?_) fun _ => ?_))
      · rename_i hq
        refine EX_retD0 rfl fun a w' hf hm => ⟨_, results_cells2 rfl (hf.get 2 _ rfl) (hf.get 3 _ rfl) (hm.blk zpk) (hm.blk zpk), ?_⟩
        refine LoadPost.bad (x := 6) ?_ (by decide) hm.below
        rw [hl', hr, if_pos (fun h => hq (by rw [e8.out]; exact congrArg (fun l => ((l.getD 0 0).toNat : Int)) h))]
      · rename_i hq
        have hx : UInt8.ofNat (s.toNat) = t0 := UInt8.toNat_inj.1 (by
          have h1 : ((s.toNat : Int) / 2 ^ 0) % 256 = (t0.toNat : Int) := Decidable.of_not_not hq
          rw [e8.out] at h1
          omega)
        have ha : (le4 s).take 1 = (le4 s).take 0 ++ [UInt8.ofNat (s.toNat)] := rfl
        have hb : [t0, t1, t2, t3].take 1 = [t0, t1, t2, t3].take 0 ++ [t0] := rfl
        exact EX_loop' 1 ⟨zcov, zent, by omega, by omega, by rw [ha, hb, hpre, hx]⟩
    · have e8 : Hid (((s.toNat : Int) / 256) % 256 = ((UInt8.ofNat (s.toNat / 256)).toNat : Int)) := by unfold Hid; rw [UInt8.toNat_ofNat']; omega
      (repeat' (first|refine zza ?_|refine zc9 ?_|refine zzb fun w hw => ?_|refine zzh fun _ => ?_|refine zzi fun _ _ => ?_|refine zzj (fun _ => ?_) fun _ => ?_))
      · rename_i hq
        refine EX_retD0 rfl fun a w' hf hm => ⟨_, results_cells2 rfl (hf.get 2 _ rfl) (hf.get 3 _ rfl) (hm.blk zpk) (hm.blk zpk), ?_⟩
        refine LoadPost.bad (x := 6) ?_ (by decide) hm.below
        rw [hl', hr, if_pos (fun h => hq (by rw [e8.out]; exact congrArg (fun l => ((l.getD 1 0).toNat : Int)) h))]
      · rename_i hq
        have hx : UInt8.ofNat (s.toNat / 256) = t1 := UInt8.toNat_inj.1 (by
          have h1 : ((s.toNat : Int) / 256) % 256 = (t1.toNat : Int) := Decidable.of_not_not hq
          rw [e8.out] at h1
          omega)
        have ha : (le4 s).take 2 = (le4 s).take 1 ++ [UInt8.ofNat (s.toNat / 256)] := rfl
        have hb : [t0, t1, t2, t3].take 2 = [t0, t1, t2, t3].take 1 ++ [t1] := rfl
        exact EX_loop' 2 ⟨zcov, zent, by omega, by omega, by rw [ha, hb, hpre, hx]⟩
    · have e8 : Hid (((s.toNat : Int) / 2 ^ 16) % 256 = ((UInt8.ofNat (s.toNat / 65536)).toNat : Int)) := by unfold Hid; rw [UInt8.toNat_ofNat']; omega
      (repeat' (first|refine zza ?_|refine zc9 ?_|refine zzb fun w hw => ?_|refine zzh fun _ => ?_|refine zzi fun _ _ => ?_|refine zzj (fun _ => ?_) fun _ => ?_))
      apply WQ_op rfl rfl (y_shr (n := 16) rfl rfl rfl)
      (repeat' (first|refine zza ?_|refine zc9 ?_|refine zzb fun w hw => ?_|refine zzh fun _ => ?_|refine zzi fun _ _ => ?_|refine zzj (fun _ => ?_) fun _ => ?_))
      · rename_i hq
        refine EX_retD0 rfl fun a w' hf hm => ⟨_, results_cells2 rfl (hf.get 2 _ rfl) (hf.get 3 _ rfl) (hm.blk zpk) (hm.blk zpk), ?_⟩
        refine LoadPost.bad (x := 6) ?_ (by decide) hm.below
        rw [hl', hr, if_pos (fun h => hq (by rw [e8.out]; exact congrArg (fun l => ((l.getD 2 0).toNat : Int)) h))]
      · rename_i hq
        have hx : UInt8.ofNat (s.toNat / 65536) = t2 := UInt8.toNat_inj.1 (by
          have h1 : ((s.toNat : Int) / 2 ^ 16) % 256 = (t2.toNat : Int) := Decidable.of_not_not hq
          rw [e8.out] at h1
          omega)
        have ha : (le4 s).take 3 = (le4 s).take 2 ++ [UInt8.ofNat (s.toNat / 65536)] := rfl
        have hb : [t0, t1, t2, t3].take 3 = [t0, t1, t2, t3].take 2 ++ [t2] := rfl
        exact EX_loop' 3 ⟨zcov, zent, by omega, by omega, by rw [ha, hb, hpre, hx]⟩
    · have e8 : Hid ((s.toNat : Int) / 2 ^ 24 = ((UInt8.ofNat (s.toNat / 16777216)).toNat : Int)) := by unfold Hid; rw [UInt8.toNat_ofNat']; omega
      (repeat' (first|refine zza ?_|refine zc9 ?_|refine zzb fun w hw => ?_|refine zzh fun _ => ?_|refine zzi fun _ _ => ?_|refine zzj (fun _ => ?_) fun _ => ?_))
      apply WQ_op rfl rfl (y_shr (n := 24) rfl rfl rfl)
      (repeat' (first|refine zza ?_|refine zc9 ?_|refine zzb fun w hw => ?_|refine zzh fun _ => ?_|refine zzi fun _ _ => ?_|refine zzj (fun _ => ?_) fun _ => ?_))
      · rename_i hq
        refine EX_retD0 rfl fun a w' hf hm => ⟨_, results_cells2 rfl (hf.get 2 _ rfl) (hf.get 3 _ rfl) (hm.blk zpk) (hm.blk zpk), ?_⟩
        refine LoadPost.bad (x := 6) ?_ (by decide) hm.below
        rw [hl', hr, if_pos (fun h => hq (by rw [e8.out]; exact congrArg (fun l => ((l.getD 3 0).toNat : Int)) h))]
      · rename_i hq
        have hx : UInt8.ofNat (s.toNat / 16777216) = t3 := UInt8.toNat_inj.1 (by
          have h1 : (s.toNat : Int) / 2 ^ 24 = (t3.toNat : Int) := Decidable.of_not_not hq
          rw [e8.out] at h1
          omega)
        have ha : (le4 s).take 4 = (le4 s).take 3 ++ [UInt8.ofNat (s.toNat / 16777216)] := rfl
        have hb : [t0, t1, t2, t3].take 4 = [t0, t1, t2, t3].take 3 ++ [t3] := rfl
        exact EX_loop' 4 ⟨zcov, zent, by omega, by omega, by rw [ha, hb, hpre, hx]⟩
  · have : k = 4 := by omega
    subst this
    have heq : le4 s = [t0, t1, t2, t3] := hpre
    rw [if_neg (fun h => h heq)] at hr
    clear hpre heq
    (repeat' (first|refine zza ?_|refine zc9 ?_|refine zzb fun w hw => ?_|refine zzh fun _ => ?_|refine zzi fun _ _ => ?_|refine zzj (fun _ => ?_) fun _ => ?_))
    apply WL_op rfl rfl (y_makeFunc rfl)
    refine WL_defer rfl rfl rfl ?_
    (repeat' (first|refine zza ?_|refine zc9 ?_|refine zzb fun w hw => ?_|refine zzh fun _ => ?_|refine zzi fun _ _ => ?_|refine zzj (fun _ => ?_) fun _ => ?_))
    rename_i b8
    cases hbp : bodyP body with
    | none =>
      rw [hbp] at hr
      simp only at hr
      refine WL_callGP (m1 := [rdr b8 body 0]) (r := [blk b3 29 #[.nilIface], blk b2 22 #[.slice none 0 0]]) (X := Empty) (Y := Unit) (V := fun x => x.elim) (Gx := fun x => x.elim) (M := fun x => x.elim) (I := fun x => x.elim) (C := fun _ => brkP) (Gy := fun _ => w.cell?) (MP := fun _ => []) (J := fun _ => True) zent rfl rfl rfl (fun W fp hW hO hS hF => (save_read b8 body (by omega) w.cell? W fp hO hS (fun W' hk => hG.below (below_keep hW.keep hk (fun i hi => Nat.le_of_not_lt fun h => by have := hF i hi h; cases this)))).mono fun e w' hq => ?_) (fun x => x.elim) (fun _ _ _ => ?_)
      · rcases hq with ⟨z, ⟨h1, _⟩, _⟩ | ⟨_, he, hk⟩
        · rw [hbp] at h1; cases h1
        · exact .inr ⟨(), trivial, he, Rd.grow_refl _ _, ⟨hk, [], ⟨[], [], rfl, ⟨by simp, fun a v ea => .inr ⟨cell_lt (hS a v ea).1, (hS a v ea).2, (hS a v ea).1⟩⟩, rfl, by simp⟩, by simp⟩⟩
      · (repeat' (first|refine zza ?_|refine zc9 ?_|refine zzb fun w hw => ?_|refine zzh fun _ => ?_|refine zzi fun _ _ => ?_|refine zzj (fun _ => ?_) fun _ => ?_))
        refine EX_panD1 rfl fun a' w' hf hm => ?_
        obtain ⟨fp, ho, hth⟩ := (hm.ent (m' := [blk b2 22 #[.slice none 0 0], blk b3 29 #[.nilIface]]) zent).all
        refine (sread_catch b2 b3 _ _ w' fp ho).mono ?_
        rintro e u w2 ⟨rfl, hh⟩
        obtain ⟨rfl, hh⟩ := hh
        have hm2 := hth _ _ hh
        refine ⟨_, rfl, rfl, _, results_cells2 rfl (hf.get 2 _ rfl) (hf.get 3 _ rfl) (hm2.blk zpk) (hm2.blk zpk), ?_⟩
        rw [hl']
        exact LoadPost.bad hr (by decide) hm2.below
    | some us =>
      rw [hbp] at hr
      simp only at hr
      refine WL_callG (m1 := [rdr b8 body 0]) (r := [blk b3 29 #[.nilIface], blk b2 22 #[.slice none 0 0]]) (X := Rd × List BindM × Option Addr × Nat) (V := fun z => .slice z.2.2.1 z.2.1.length z.2.2.2) (Gx := fun z => z.1) (M := fun _ => [rdr b8 body body.length]) (I := fun z => us = z.2.1.map BindM.bnd ∧ Row bindE 4 z.1 z.2.2.1 z.2.2.2 z.2.1 ∧ ∀ x ∈ z.2.1, BindG z.1 x) zent rfl rfl rfl (fun W fp hW hO hS hF => (save_read b8 body (by omega) w.cell? W fp hO hS (fun W' hk => hG.below (below_keep hW.keep hk (fun i hi => Nat.le_of_not_lt fun h => by have := hF i hi h; cases this)))).mono fun e w' hq => ?_) ?_
      · rcases hq with ⟨z, ⟨h1, h2, h3⟩, he, hg, hh⟩ | ⟨h1, _⟩
        · rw [hbp] at h1; injection h1 with h1
          exact ⟨z, ⟨h1, h2, h3⟩, he, hg, hh⟩
        · rw [hbp] at h1; cases h1
      · rintro ⟨G2, ws, p, c⟩ ⟨hu, hrow, hbs⟩ hg2
        dsimp only at hu hrow hbs hg2 ⊢
        (repeat' (first|refine zza ?_|refine zc9 ?_|refine zzb fun w hw => ?_|refine zzh fun _ => ?_|refine zzi fun _ _ => ?_|refine zzj (fun _ => ?_) fun _ => ?_))
        refine EX_retD1 rfl fun a w' hf hm => (sread_idle b2 b3 w').mono ?_
        rintro e u w2 ⟨rfl, rfl, hb⟩
        have hm2 := hm.grow hb
        refine ⟨_, rfl, rfl, _, results_cells2 rfl (hf.get 2 _ rfl) (hf.get 3 _ rfl) (hm2.blk zpk) (hm2.blk zpk), ?_⟩
        rw [hl']
        have hle : Rd.le G2 w2.cell? := hm2.le (m := _) (r := _) zpk
        exact ⟨p, c, ws, by rw [hr, hu], by rw [hr]; rfl, hrow.mono hle, fun x hx => (hbs x hx).mono hle, hm2.below⟩
end Go.Proofs.YtdnkapfcnapadaaGreatDoor
