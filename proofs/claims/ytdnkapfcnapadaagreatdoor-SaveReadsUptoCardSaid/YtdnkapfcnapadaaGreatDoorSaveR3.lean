/-
  save's reader: values.
-/
import Derived.Test.YtdnkapfcnapadaaGreatDoorGo
import Derived.Test.YtdnkapfcnapadaaGreatDoorSaveR2
import Derived.Test.YtdnkapfcnapadaaGreatDoorSaveBody
import Derived.Test.YtdnkapfcnapadaaGreatDoorDrawn
import Derived.Test.YtdnkapfcnapadaaGreatDoorAnyL
import Derived.Test.YtdnkapfcnapadaaGreatDoorRetD
import Derived.Test.YtdnkapfcnapadaaGreatDoorRetE
namespace Go.Proofs.YtdnkapfcnapadaaGreatDoor
open Go.RowKit

/-- a cut ahead of what stands behind -/
theorem CW_midS {P : Program} {K : Cx} {ρ : Env} {m : List HP} {X : Type} {Q : Exit → Act → World → Prop} (kp : Env) (_hk : Cov ρ kp) (R : X → Env) (M : X → List HP) (I : X → Prop) {x y : Code} (h : CW P K (QMid K (fun z => R z ++ kp) M I Q) x ρ m) (k : ∀ z, I z → CW P K Q y (R z ++ kp) (M z)) : CW P K (QSeq P y Q) x ρ m := by
  refine ⟨fun a w hf hm => wp_mono (h.run a w hf hm) fun e a' w' hq => ?_⟩
  cases e <;> first
    | exact hq
    | (obtain ⟨z, hz, hzf, hzm⟩ := hq; exact (k z hz).run _ _ hzf hzm)
theorem y_min {P : Program} {K : Cx} {ρ : Env} {m : List HP} {dst : Option Nat} {ty t t' : TypeId} {pos : String} {aft : Array Edge} {g : Option (Nat × Bool)} {x y : Operand} {k : IntKind} {i j : Int} (hx : opv ρ x = some (.int k i)) (hy : opv ρ y = some (.int k j)) : Yi P K ρ m ⟨dst, .call ⟨.builtin .min, #[x, y], #[t, t']⟩, ty, pos, aft, g⟩ (.int k (if j < i then j else i)) := by
  refine ⟨fun _ w hf _ => ?_⟩
  simp only [BigFrame.execOp_builtin, List.map_toArray, List.map_cons, List.map_nil, hf.eval hx, hf.eval hy]
  simp only [go_sem]
  simp [Builtin.min_, Builtin.min2]
theorem many_at {l : List UInt8} {k m : Nat} : ∀ (n : Nat) {xs : List Int} {r : List UInt8}, manyP (belowP m) n (l.drop k) = some (xs, r) → k ≤ l.length → ∃ k', k' ≤ l.length ∧ r = l.drop k' := fun n xs r h hk => by
  obtain ⟨h1, h2, h3⟩ := many_dec (enc := fun n : Int => cntB n.toNat) (ok := fun n : Int => 0 ≤ n ∧ n ≤ m) (fun l x r hx => ⟨(below_dec hx).1, (below_dec hx).2.1, (below_dec hx).2.2⟩) _ _ _ _ h
  obtain ⟨h4, h5⟩ := drop_app h1 hk
  exact ⟨_, h5, h4⟩
theorem hasZero_snoc (xs : List Int) (y : Int) : hasZero (xs ++ [y]) = (hasZero xs || decide (y = 0)) := by
  induction xs with
  | nil => simp [hasZero]
  | cons x xs ih =>
    rw [List.cons_append, hasZero, hasZero, ih]
    split <;> simp
/-- what a value's reading tells -/
def ValGot (b : Nat) (l : List UInt8) (G : Rd) (w : World) (fp : List Nat) (Z : Option ((Bool × List Int × List Int) × List UInt8)) (e : Ending) (w' : World) : Prop :=
  (∃ (ch : Bool) (s d : List Int) (k' : Nat) (p q : Option Addr) (c c2 : Nat), k' ≤ l.length ∧ Z = some ((ch, s, d), l.drop k') ∧ e = .returned (.agg #[.bool ch, .slice p s.length c, .slice q d.length c2]) ∧
    Holds w fp (ro w fp G :: [sl 3 1 p s.length c (s.map (Value.int .i64)), sl 3 1 q d.length c2 (d.map (Value.int .i64)), rdr b l k']) w') ∨
  (Z = none ∧ e = .panicked brkP ∧ Keep w fp w')
set_option maxHeartbeats 8000000 in
set_option maxRecDepth 100000 in
theorem save_value' (b : Nat) (l : List UInt8) (k : Nat) (_hk : k ≤ l.length) (hl : l.length ≤ 1099511627776) (G : Rd) (w : World) (fp : List Nat) (hO : Own [rdr b l k] fp w) (hS : Rd.sub G fp w) :
    Calls Tryz.prog 80 #[.pointer (some ⟨b, 0, none⟩)] w (ValGot b l G w fp (valP (l.drop k))) := by
  obtain ⟨Z, hZ⟩ : ∃ Z, valP (l.drop k) = Z := ⟨_, rfl⟩
  rw [hZ]
  refine enterR (args := [_]) hS hO Tryz.func80 rfl Tryz.ntmps80 (by simp) ?_
  clear hO hS
  cases hd : l[k]? with
  | none =>
    have hle : l.length ≤ k := by simpa using hd
    rw [List.drop_eq_nil_of_le hle, valP] at hZ
    subst hZ
    (repeat' (first|refine zza ?_|refine zc9 ?_|refine zzb fun w hw => ?_|refine zzh fun _ => ?_|refine zzi fun _ _ => ?_|refine zzj (fun _ => ?_) fun _ => ?_))
    (apply WL_callUP1 (h := rdr b l k); (first | exact .here | exact .there .here | exact .there (.there .here) | exact .there (.there (.there .here)) | exact .there (.there (.there (.there .here))) | exact .there (.there (.there (.there (.there .here)))) | exact .there (.there (.there (.there (.there (.there .here)))))); (first | exact .here | exact .there .here | exact .there (.there .here) | exact .there (.there (.there .here)) | exact .there (.there (.there (.there .here))) | exact .there (.there (.there (.there (.there .here)))) | exact .there (.there (.there (.there (.there (.there .here)))))); rfl; rfl; rfl; (intro W fp hO hS; exact save_next_bad b l k hle G W fp hO hS))
    (repeat' (first|refine zza ?_|refine zc9 ?_|refine zzb fun w hw => ?_|refine zzh fun _ => ?_|refine zzi fun _ _ => ?_|refine zzj (fun _ => ?_) fun _ => ?_))
    exact .inr ⟨rfl, rfl, hw.keep⟩
  | some x =>
    have hx := x.toNat_lt
    have hk1 : k + 1 ≤ l.length := (List.getElem?_eq_some_iff.1 hd).1
    rw [drop_cons hd, valP] at hZ
    by_cases h1 : 1 < x.toNat
    · rw [if_pos h1] at hZ
      subst hZ
      (repeat' (first|refine zza ?_|refine zc9 ?_|refine zzb fun w hw => ?_|refine zzh fun _ => ?_|refine zzi fun _ _ => ?_|refine zzj (fun _ => ?_) fun _ => ?_))
      (apply WL_callU1 (h := rdr b l k); (first | exact .here | exact .there .here | exact .there (.there .here) | exact .there (.there (.there .here)) | exact .there (.there (.there (.there .here))) | exact .there (.there (.there (.there (.there .here)))) | exact .there (.there (.there (.there (.there (.there .here)))))); (first | exact .here | exact .there .here | exact .there (.there .here) | exact .there (.there (.there .here)) | exact .there (.there (.there (.there .here))) | exact .there (.there (.there (.there (.there .here)))) | exact .there (.there (.there (.there (.there (.there .here)))))); rfl; rfl; rfl; (intro W fp hO hS; exact save_next b l k x hd hl G W fp hO hS))
      (repeat' (first|refine zza ?_|refine zc9 ?_|refine zzb fun w hw => ?_|refine zzh fun _ => ?_|refine zzi fun _ _ => ?_|refine zzj (fun _ => ?_) fun _ => ?_))
      exact .inr ⟨rfl, rfl, hw.keep⟩
    · rw [if_neg h1] at hZ
      obtain ⟨ch, hch⟩ : ∃ ch, ch = decide (x.toNat = 1) := ⟨_, rfl⟩
      rw [← hch] at hZ
      (repeat' (first|refine zza ?_|refine zc9 ?_|refine zzb fun w hw => ?_|refine zzh fun _ => ?_|refine zzi fun _ _ => ?_|refine zzj (fun _ => ?_) fun _ => ?_))
      rename_i b2 b3
      (apply WL_callU1 (h := rdr b l k); (first | exact .here | exact .there .here | exact .there (.there .here) | exact .there (.there (.there .here)) | exact .there (.there (.there (.there .here))) | exact .there (.there (.there (.there (.there .here)))) | exact .there (.there (.there (.there (.there (.there .here)))))); (first | exact .here | exact .there .here | exact .there (.there .here) | exact .there (.there (.there .here)) | exact .there (.there (.there (.there .here))) | exact .there (.there (.there (.there (.there .here)))) | exact .there (.there (.there (.there (.there (.there .here)))))); rfl; rfl; rfl; (intro W fp hO hS; exact save_next b l k x hd hl G W fp hO hS))
      refine WL_nil ?_
      refine EX_seq ?_
      refine CW_midS (X := Unit) [(0,_),(2,_),(3,_)] zcov (fun _ => []) (fun _ => [blk b3 87 #[.bool ch, .slice none 0 0, .slice none 0 0], ro w fp G, rdr b l (k + 1), blk b2 87 #[.bool false, .slice none 0 0, .slice none 0 0]]) (fun _ => True) ?_ (fun _ _ => ?_)
      · by_cases hx1 : x.toNat = 1
        · rw [decide_eq_true hx1] at hch
          subst hch
          (repeat' (first|refine zza ?_|refine zc9 ?_|refine zzb fun w hw => ?_|refine zzh fun _ => ?_|refine zzi fun _ _ => ?_|refine zzj (fun _ => ?_) fun _ => ?_))
          exact EX_mid' () ⟨zcov, zent, trivial⟩
        · rw [decide_eq_false hx1] at hch
          subst hch
          (repeat' (first|refine zza ?_|refine zc9 ?_|refine zzb fun w hw => ?_|refine zzh fun _ => ?_|refine zzi fun _ _ => ?_|refine zzj (fun _ => ?_) fun _ => ?_))
          exact EX_mid' () ⟨zcov, zent, trivial⟩
      clear hch h1 hx hd
      (repeat' (first|refine zza ?_|refine zc9 ?_|refine zzb fun w hw => ?_|refine zzh fun _ => ?_|refine zzi fun _ _ => ?_|refine zzj (fun _ => ?_) fun _ => ?_))
      cases hb : belowP 6 (l.drop (k + 1)) with
      | none =>
        rw [hb] at hZ
        subst hZ
        (apply WL_callUP1 (h := rdr b l (k + 1)); (first | exact .here | exact .there .here | exact .there (.there .here) | exact .there (.there (.there .here)) | exact .there (.there (.there (.there .here))) | exact .there (.there (.there (.there (.there .here)))) | exact .there (.there (.there (.there (.there (.there .here)))))); (first | exact .here | exact .there .here | exact .there (.there .here) | exact .there (.there (.there .here)) | exact .there (.there (.there (.there .here))) | exact .there (.there (.there (.there (.there .here)))) | exact .there (.there (.there (.there (.there (.there .here)))))); rfl; rfl; rfl; (intro W fp hO hS; exact below_bad b l (k + 1) hl G W fp hO hS (m := 6) (by decide) hk1 hb))
        (repeat' (first|refine zza ?_|refine zc9 ?_|refine zzb fun w hw => ?_|refine zzh fun _ => ?_|refine zzi fun _ _ => ?_|refine zzj (fun _ => ?_) fun _ => ?_))
        exact .inr ⟨rfl, rfl, hw.keep⟩
      | some q =>
        obtain ⟨n, r⟩ := q
        rw [hb] at hZ
        simp only at hZ
        obtain ⟨n0, n6⟩ := (below_dec hb).2
        obtain ⟨k1, hk1', rfl⟩ := below_at hb hk1
        obtain ⟨nn, rfl⟩ := Int.eq_ofNat_of_zero_le n0
        rw [Int.toNat_natCast] at hZ
        (apply WL_callU1 (h := rdr b l (k + 1)); (first | exact .here | exact .there .here | exact .there (.there .here) | exact .there (.there (.there .here)) | exact .there (.there (.there (.there .here))) | exact .there (.there (.there (.there (.there .here)))) | exact .there (.there (.there (.there (.there (.there .here)))))); (first | exact .here | exact .there .here | exact .there (.there .here) | exact .there (.there (.there .here)) | exact .there (.there (.there (.there .here))) | exact .there (.there (.there (.there (.there .here)))) | exact .there (.there (.there (.there (.there (.there .here)))))); rfl; rfl; rfl; (intro W fp hO hS; exact below_ok b l (k + 1) hl G W fp hO hS (m := 6) (by decide) hk1' hb))
        clear hb
        (repeat' (first|refine zza ?_|refine zc9 ?_|refine zzb fun w hw => ?_|refine zzh fun _ => ?_|refine zzi fun _ _ => ?_|refine zzj (fun _ => ?_) fun _ => ?_))
        refine CW_ent (m' := [sl 3 1 none 0 0 [], sl 3 1 none 0 0 [], rdr b l k1, blk b3 87 #[.bool ch, .slice none 0 0, .slice none 0 0], ro w fp G, blk b2 87 #[.bool false, .slice none 0 0, .slice none 0 0]]) (Ent.nilown (Ent.nilown zent)) ?_
        refine CW_loopK [(0,_),(2,_),(3,_),(18,_)] zcov (fun x : Nat × Nat × List Int × Option Addr × Nat => [(19, .int .i64 (x.1 : Nat)), (4, .int .i64 (if hasZero x.2.2.1 = true then 0 else 1))]) (fun x => [sl 3 1 x.2.2.2.1 x.1 x.2.2.2.2 (x.2.2.1.map (Value.int .i64)), sl 3 1 none 0 0 [], rdr b l x.2.1, blk b3 87 #[.bool ch, .slice x.2.2.2.1 x.1 x.2.2.2.2, .slice none 0 0], ro w fp G, blk b2 87 #[.bool false, .slice none 0 0, .slice none 0 0]]) (fun x => x.2.2.1.length = x.1 ∧ x.1 ≤ nn ∧ x.2.1 ≤ l.length ∧ manyP (belowP 4096) x.1 (l.drop k1) = some (x.2.2.1, l.drop x.2.1) ∧ ∀ n ∈ x.2.2.1, 0 ≤ n ∧ n ≤ 4096) (fun x => nn - x.1) (0, k1, [], none, 0) ⟨rfl, Nat.zero_le _, hk1', rfl, by simp⟩ zcov zent ?_
        rintro ⟨j, kj, xs, p, c⟩ ⟨hxl, hj, hkj, hmany, hax⟩
        dsimp only at hxl hj hkj hmany hax ⊢
        by_cases hlt : j < nn
        · have hsn := many_snoc (p := belowP 4096) j (l.drop k1)
          rw [hmany] at hsn
          simp only at hsn
          cases hq : belowP 4096 (l.drop kj) with
          | none =>
            rw [hq] at hsn
            rw [many_none hsn nn hlt] at hZ
            subst hZ
            (repeat' (first|refine zza ?_|refine zc9 ?_|refine zzb fun w hw => ?_|refine zzh fun _ => ?_|refine zzi fun _ _ => ?_|refine zzj (fun _ => ?_) fun _ => ?_))
            (apply WL_callUP1 (h := rdr b l kj); (first | exact .here | exact .there .here | exact .there (.there .here) | exact .there (.there (.there .here)) | exact .there (.there (.there (.there .here))) | exact .there (.there (.there (.there (.there .here)))) | exact .there (.there (.there (.there (.there (.there .here)))))); (first | exact .here | exact .there .here | exact .there (.there .here) | exact .there (.there (.there .here)) | exact .there (.there (.there (.there .here))) | exact .there (.there (.there (.there (.there .here)))) | exact .there (.there (.there (.there (.there (.there .here)))))); rfl; rfl; rfl; (intro W fp hO hS; exact below_bad b l kj hl G W fp hO hS (m := 4096) (by decide) hkj hq))
            (repeat' (first|refine zza ?_|refine zc9 ?_|refine zzb fun w hw => ?_|refine zzh fun _ => ?_|refine zzi fun _ _ => ?_|refine zzj (fun _ => ?_) fun _ => ?_))
            exact .inr ⟨rfl, rfl, hw.keep⟩
          | some q =>
            obtain ⟨y, r⟩ := q
            rw [hq] at hsn
            simp only at hsn
            obtain ⟨y0, y1⟩ := (below_dec hq).2
            obtain ⟨kk, hkk, rfl⟩ := below_at hq hkj
            have hzs := hasZero_snoc xs y
            clear hmany
            (repeat' (first|refine zza ?_|refine zc9 ?_|refine zzb fun w hw => ?_|refine zzh fun _ => ?_|refine zzi fun _ _ => ?_|refine zzj (fun _ => ?_) fun _ => ?_))
            (apply WL_callU1 (h := rdr b l kj); (first | exact .here | exact .there .here | exact .there (.there .here) | exact .there (.there (.there .here)) | exact .there (.there (.there (.there .here))) | exact .there (.there (.there (.there (.there .here)))) | exact .there (.there (.there (.there (.there (.there .here)))))); (first | exact .here | exact .there .here | exact .there (.there .here) | exact .there (.there (.there .here)) | exact .there (.there (.there (.there .here))) | exact .there (.there (.there (.there (.there .here)))) | exact .there (.there (.there (.there (.there (.there .here)))))); rfl; rfl; rfl; (intro W fp hO hS; exact below_ok b l kj hl G W fp hO hS (m := 4096) (by decide) hkk hq))
            clear hq hZ
            (repeat' (first|refine zza ?_|refine zc9 ?_|refine zzb fun w hw => ?_|refine zzh fun _ => ?_|refine zzi fun _ _ => ?_|refine zzj (fun _ => ?_) fun _ => ?_))
            rename_i bb q cq
            have hprod : (if hasZero xs = true then (0 : Int) else 1) * (if 1 < y then 1 else y) = if hasZero (xs ++ [y]) = true then 0 else 1 := by
              rw [hzs]
              cases hasZero xs with
              | true => simp
              | false =>
                by_cases hy0 : y = 0
                · subst hy0; simp
                · have : (if 1 < y then (1 : Int) else y) = 1 := by split <;> omega
                  rw [this]; simp [hy0]
            have hI : I64 ((if hasZero xs = true then (0 : Int) else 1) * (if 1 < y then 1 else y)) := by
              rw [hprod]; unfold I64; split <;> omega
            apply WL_op rfl rfl (y_min rfl rfl)
            apply WL_op rfl rfl (y_mul rfl rfl hI)
            rw [hprod]
            clear hI hprod hzs
            (repeat' (first|refine zza ?_|refine zc9 ?_|refine zzb fun w hw => ?_|refine zzh fun _ => ?_|refine zzi fun _ _ => ?_|refine zzj (fun _ => ?_) fun _ => ?_))
            refine EX_loop' (j + 1, kk, xs ++ [y], q, cq) ⟨zcov, ?_, by dsimp only; omega, by simp [hxl], by dsimp only; omega, hkk, hsn, ?_⟩
            · dsimp only
              rw [List.map_append]
              exact zent
            · intro n hn
              rcases List.mem_append.1 hn with h | h
              · exact hax n h
              · rw [List.mem_singleton.1 h]; exact ⟨y0, y1⟩
        · have hjn : j = nn := by omega
          subst hjn
          rw [hmany] at hZ
          simp only at hZ
          clear hmany hj hlt n0 hk1' hk1
          unfold roomP at hZ
          cases hz : hasZero xs with
          | true =>
            rw [hz, if_pos rfl] at hZ
            simp only [manyP] at hZ
            rw [if_pos rfl]
            (repeat' (first|refine zza ?_|refine zc9 ?_|refine zzb fun w hw => ?_|refine zzh fun _ => ?_|refine zzi fun _ _ => ?_|refine zzj (fun _ => ?_) fun _ => ?_))
            exact .inl ⟨ch, xs, [], kj, p, none, c, 0, hkj, hZ.symm, by rw [hxl]; rfl, by rw [hxl]; exact hw.ent zent⟩
          | false =>
            rw [hz, if_neg (by simp)] at hZ
            rw [if_neg (by simp)]
            (repeat' (first|refine zza ?_|refine zc9 ?_|refine zzb fun w hw => ?_|refine zzh fun _ => ?_|refine zzi fun _ _ => ?_|refine zzj (fun _ => ?_) fun _ => ?_))
            refine CW_loopK [(0,_),(2,_),(3,_),(38,_),(39,_)] zcov (fun x : Nat × Int => [(40, .int .i64 (x.1 : Nat)), (4, .int .i64 x.2)]) (fun _ => [sl 3 1 p j c (xs.map (Value.int .i64)), sl 3 1 none 0 0 [], rdr b l kj, blk b3 87 #[.bool ch, .slice p j c, .slice none 0 0], ro w fp G, blk b2 87 #[.bool false, .slice none 0 0, .slice none 0 0]]) (fun x => x.1 ≤ j ∧ prodF 1 xs = prodF x.2 (xs.drop x.1) ∧ 0 ≤ x.2 ∧ x.2 ≤ 4096) (fun x => j - x.1) (0, 1) ⟨Nat.zero_le _, rfl, by decide, by decide⟩ zcov zent ?_
            rintro ⟨i, a⟩ ⟨hi, hpr, ha0, ha1⟩
            dsimp only at hi hpr ha0 ha1 ⊢
            by_cases hlt : i < j
            · have hix : i < xs.length := by omega
              have hy := get_some hix (0 : Int)
              generalize xs.getD i 0 = y at hy
              have hgy : xs.getD i 0 = y := by rw [List.getD_eq_getElem?_getD, hy]; rfl
              obtain ⟨y0, y1⟩ := hax y (List.mem_of_getElem? hy)
              rw [drop_cons hy, prodF] at hpr
              have hm0 : 0 ≤ a * y := Int.mul_nonneg ha0 y0
              have hm1 : a * y ≤ 4096 * 4096 := Int.mul_le_mul ha1 y1 y0 (by omega)
              have hI : I64 (a * y) := by unfold I64; omega
              by_cases hbig : 4096 < a * y
              · rw [if_pos hbig] at hpr
                rw [hpr, if_pos (by decide)] at hZ
                simp only at hZ
                subst hZ
                clear hpr
                (repeat' (first|refine zza ?_|refine zc9 ?_|refine zzb fun w hw => ?_|refine zzh fun _ => ?_|refine zzi fun _ _ => ?_|refine zzj (fun _ => ?_) fun _ => ?_))
                apply WL_op rfl rfl (y_load rfl (rd_slI zpk hix))
                rw [hgy]
                (repeat' (first|refine zza ?_|refine zc9 ?_|refine zzb fun w hw => ?_|refine zzh fun _ => ?_|refine zzi fun _ _ => ?_|refine zzj (fun _ => ?_) fun _ => ?_))
                exact .inr ⟨rfl, rfl, hw.keep⟩
              · rw [if_neg hbig] at hpr
                clear hZ
                (repeat' (first|refine zza ?_|refine zc9 ?_|refine zzb fun w hw => ?_|refine zzh fun _ => ?_|refine zzi fun _ _ => ?_|refine zzj (fun _ => ?_) fun _ => ?_))
                apply WL_op rfl rfl (y_load rfl (rd_slI zpk hix))
                rw [hgy]
                (repeat' (first|refine zza ?_|refine zc9 ?_|refine zzb fun w hw => ?_|refine zzh fun _ => ?_|refine zzi fun _ _ => ?_|refine zzj (fun _ => ?_) fun _ => ?_))
                exact EX_loop' (i + 1, a * y) ⟨zcov, zent, by dsimp only; omega, by dsimp only; omega, hpr, hm0, by dsimp only; omega⟩
            · have hij : i = j := by omega
              subst hij
              rw [← hxl, List.drop_length, prodF] at hpr
              rw [hpr, if_neg (by simp)] at hZ
              simp only at hZ
              clear hpr hi hlt
              obtain ⟨an, rfl⟩ := Int.eq_ofNat_of_zero_le ha0
              rw [Int.toNat_natCast] at hZ
              (repeat' (first|refine zza ?_|refine zc9 ?_|refine zzb fun w hw => ?_|refine zzh fun _ => ?_|refine zzi fun _ _ => ?_|refine zzj (fun _ => ?_) fun _ => ?_))
              refine CW_loopK [(0,_),(2,_),(3,_),(52,_)] zcov (fun x : Nat × Nat × List Int × Option Addr × Nat => [(53, .int .i64 (x.1 : Nat))]) (fun x => [sl 3 1 x.2.2.2.1 x.1 x.2.2.2.2 (x.2.2.1.map (Value.int .i64)), blk b3 87 #[.bool ch, .slice p i c, .slice x.2.2.2.1 x.1 x.2.2.2.2], rdr b l x.2.1, sl 3 1 p i c (xs.map (Value.int .i64)), ro w fp G, blk b2 87 #[.bool false, .slice none 0 0, .slice none 0 0]]) (fun x => x.2.2.1.length = x.1 ∧ x.1 ≤ an ∧ x.2.1 ≤ l.length ∧ manyP numP x.1 (l.drop kj) = some (x.2.2.1, l.drop x.2.1)) (fun x => an - x.1) (0, kj, [], none, 0) ⟨rfl, Nat.zero_le _, hkj, rfl⟩ zcov (Ent.cons (.there .here) (Ent.cons (.there (.there .here)) (Ent.cons (.there .here) zent))) ?_
              rintro ⟨j, ki, ds, q, c2⟩ ⟨hdl, hj, hki, hmany⟩
              dsimp only at hdl hj hki hmany ⊢
              by_cases hlt : j < an
              · have hsn := many_snoc (p := numP) j (l.drop kj)
                rw [hmany] at hsn
                simp only at hsn
                cases hq : numP (l.drop ki) with
                | none =>
                  rw [hq] at hsn
                  rw [many_none hsn an hlt] at hZ
                  simp only at hZ
                  subst hZ
                  (repeat' (first|refine zza ?_|refine zzb fun w hw => ?_|refine zzh fun _ => ?_|refine zzi fun _ _ => ?_|refine zzj (fun _ => ?_) fun _ => ?_))
                  refine CW_any 8 (by kernel_rfl) rfl ?_
                  repeat' (first | (refine WO_op rfl rfl rfl (y_fieldAddr rfl rfl) ?_) | (refine WO_op rfl rfl rfl (y_load rfl (rd_blk zpk rfl)) ?_) | (refine WO_op rfl rfl rfl (y_move rfl) ?_) | (apply WO_callP (h := rdr b l ki) rfl; (first | exact .here | exact .there .here | exact .there (.there .here) | exact .there (.there (.there .here)) | exact .there (.there (.there (.there .here))) | exact .there (.there (.there (.there (.there .here)))) | exact .there (.there (.there (.there (.there (.there .here)))))); (first | exact .here | exact .there .here | exact .there (.there .here) | exact .there (.there (.there .here)) | exact .there (.there (.there (.there .here))) | exact .there (.there (.there (.there (.there .here)))) | exact .there (.there (.there (.there (.there (.there .here)))))); rfl; rfl; rfl; (intro W fp hO hS; exact number_bad b l ki hl G W fp hO hS hq)) | (refine WA_2 (i := 0) (j := 2) (by decide +kernel) ?_ ?_) | (refine WA_2 (i := 1) (j := 2) (by decide +kernel) ?_ ?_) | (refine WA_2 (i := 0) (j := 3) (by decide +kernel) ?_ ?_) | (refine WA_2 (i := 1) (j := 3) (by decide +kernel) ?_ ?_) | (refine WA_1 (i := 2) (by decide +kernel) ?_) | (refine WA_1 (i := 3) (by decide +kernel) ?_))
                  all_goals ((repeat' (first|refine zza ?_|refine zc9 ?_|refine zzb fun w hw => ?_|refine zzh fun _ => ?_|refine zzi fun _ _ => ?_|refine zzj (fun _ => ?_) fun _ => ?_)); exact .inr ⟨rfl, rfl, hw.keep⟩)
                | some qq =>
                  obtain ⟨y, r⟩ := qq
                  rw [hq] at hsn
                  simp only at hsn
                  obtain ⟨kk, hkk, rfl⟩ := num_at hq hki
                  clear hmany hZ
                  (repeat' (first|refine zza ?_|refine zzb fun w hw => ?_|refine zzh fun _ => ?_|refine zzi fun _ _ => ?_|refine zzj (fun _ => ?_) fun _ => ?_))
                  refine CW_eff 5 [sl 3 1 q j c2 (ds.map (Value.int .i64)), blk b3 87 #[.bool ch, .slice p i c, .slice q j c2], sl 3 1 p i c (xs.map (Value.int .i64)), blk b2 87 #[.bool false, .slice none 0 0, .slice none 0 0]] (pm := [rdr b l ki, ro w fp G]) zent (by kernel_rfl) (by decide +kernel) ?_
                  (refine WE_op rfl rfl zyi ?_)
                  (refine WE_op rfl rfl zyi ?_)
                  (refine WE_op rfl rfl zyi ?_)
                  apply WE_callU (pm := [rdr b l kk, ro w fp G]) (M := [rdr b l kk]) (h := rdr b l ki) (hp := zpk) (hp' := zpk) (hr := zent) (hso := by decide +kernel) (hx := rfl) (hg := rfl) (hn := rfl) (hc := fun W fp hO hS => number_ok b l ki hl G W fp hO hS hkk hq)
                  apply WE_bslice (pm := [ro w fp G, rdr b l kk]) (he := zent) (hso := by decide +kernel) (hx := rfl) (hl := rfl) (hc := rfl) (hs := rfl) (h0 := rfl) (hg := rfl) (hn := rfl)
                  intro b59
                  refine WE_end ?_
                  (repeat' (first|refine zza ?_|refine zc9 ?_|refine zzb fun w hw => ?_|refine zzh fun _ => ?_|refine zzi fun _ _ => ?_|refine zzj (fun _ => ?_) fun _ => ?_))
                  rename_i bb q2 c3
                  refine EX_loop' (j + 1, kk, ds ++ [y], q2, c3) ⟨zcov, ?_, by dsimp only; omega, by simp [hdl], by dsimp only; omega, hkk, hsn⟩
                  dsimp only
                  rw [List.map_append]
                  exact zent
              · have hja : j = an := by omega
                subst hja
                rw [hmany] at hZ
                simp only at hZ
                clear hmany
                (repeat' (first|refine zza ?_|refine zc9 ?_|refine zzb fun w hw => ?_|refine zzh fun _ => ?_|refine zzi fun _ _ => ?_|refine zzj (fun _ => ?_) fun _ => ?_))
                exact .inl ⟨ch, xs, ds, ki, p, q, c, c2, hki, hZ.symm, by rw [hxl, hdl]; rfl, by rw [hxl, hdl]; exact hw.ent zent⟩
end Go.Proofs.YtdnkapfcnapadaaGreatDoor
