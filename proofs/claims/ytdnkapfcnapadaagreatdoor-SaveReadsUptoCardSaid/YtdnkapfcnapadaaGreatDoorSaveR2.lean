/-
  save's reader: a byte, a count.
  save's reader: counts that are not above some number, numbers.
-/
import Derived.Test.YtdnkapfcnapadaaGreatDoorGo
import Derived.Test.YtdnkapfcnapadaaGreatDoorInst
import Derived.Test.YtdnkapfcnapadaaGreatDoorBitL
import Derived.Test.YtdnkapfcnapadaaGreatDoorRetC
import Derived.Test.YtdnkapfcnapadaaGreatDoorDefer
import Derived.Test.YtdnkapfcnapadaaGreatDoorSaveBody
namespace Go.Proofs.YtdnkapfcnapadaaGreatDoor
open Go.RowKit

/-- the reader: what it reads, where it is -/
abbrev rdr (b : Nat) (l : List UInt8) (k : Nat) : HP := blk b 104 #[.string ⟨l.toArray⟩, .int .i64 (k : Int)]
def brkV : Value := .iface 101 (.agg #[])
def brkP : List PanicEntry := [{ v := brkV, recovered := false }]
set_option maxHeartbeats 2000000 in
set_option maxRecDepth 100000 in
theorem save_next (b : Nat) (l : List UInt8) (k : Nat) (x : UInt8) (hx : l[k]? = some x) (hl : l.length ≤ 1099511627776) (G : Rd) (w : World) (fp : List Nat) (hO : Own [rdr b l k] fp w) (hS : Rd.sub G fp w) :
    Calls Tryz.prog 119 #[.pointer (some ⟨b, 0, none⟩)] w fun e w' => e = .returned (.int .u8 (x.toNat : Int)) ∧ Holds w fp (ro w fp G :: [rdr b l (k + 1)]) w' := by
  have hk : k < l.length := (List.getElem?_eq_some_iff.1 hx).1
  have hg : l.getD k 0 = x := by rw [List.getD_eq_getElem?_getD, hx]; rfl
  refine enterR (args := [_]) hS hO Tryz.func119 rfl Tryz.ntmps119 (by simp) ?_
  (repeat' (first|refine zza ?_|refine zc9 ?_|refine zzb fun w hw => ?_|refine zzh fun _ => ?_|refine zzi fun _ _ => ?_|refine zzj (fun _ => ?_) fun _ => ?_))
  refine CW_seq ?_
  (repeat' (first|refine zza ?_|refine zc9 ?_|refine zzb fun w hw => ?_|refine zzh fun _ => ?_|refine zzi fun _ _ => ?_|refine zzj (fun _ => ?_) fun _ => ?_))
  refine ⟨?_, hw.ent (Ent.cons (.there .here) (Ent.consK .here rfl (by kernel_rfl) Ent.nil))⟩
  rw [show ((k : Int) + 1 - 1).toNat = k by omega, hg]
set_option maxHeartbeats 2000000 in
set_option maxRecDepth 100000 in
theorem save_next_bad (b : Nat) (l : List UInt8) (k : Nat) (hk : l.length ≤ k) (G : Rd) (w : World) (fp : List Nat) (hO : Own [rdr b l k] fp w) (hS : Rd.sub G fp w) :
    Calls Tryz.prog 119 #[.pointer (some ⟨b, 0, none⟩)] w fun e w' => e = .panicked brkP ∧ Keep w fp w' := by
  refine enterR (args := [_]) hS hO Tryz.func119 rfl Tryz.ntmps119 (by simp) ?_
  (repeat' (first|refine zza ?_|refine zc9 ?_|refine zzb fun w hw => ?_|refine zzh fun _ => ?_|refine zzi fun _ _ => ?_|refine zzj (fun _ => ?_) fun _ => ?_))
  refine CW_seq ?_
  (repeat' (first|refine zza ?_|refine zc9 ?_|refine zzb fun w hw => ?_|refine zzh fun _ => ?_|refine zzi fun _ _ => ?_|refine zzj (fun _ => ?_) fun _ => ?_))
  exact ⟨rfl, hw.keep⟩

/-! ## counts -/
theorem and127 : ∀ x : Fin 256, x.val &&& 127 = x.val % 128 := by decide +kernel
theorem and127' (x : UInt8) : x.toNat &&& 127 = x.toNat % 128 := and127 ⟨x.toNat, x.toNat_lt⟩
/-- how many bits a number below 128 has -/
def bitsN (n : Nat) : Nat := if n = 0 then 0 else Nat.log2 n + 1
theorem bits_iff : ∀ (n : Fin 128) (s : Fin 65), (s.val < bitsN n.val) = (2 ^ s.val ≤ n.val) := by decide +kernel
theorem bits_shift {n sh : Nat} (hn : n < 128) (hs : sh ≤ 63) : (64 < bitsN n + sh) ↔ 2 ^ 64 ≤ n * 2 ^ sh := by
  have h1 := bits_iff ⟨n, hn⟩ ⟨64 - sh, by omega⟩
  have h2 : (64 - sh < bitsN n) ↔ 2 ^ (64 - sh) ≤ n := by rw [← h1]
  rw [show (64 < bitsN n + sh) ↔ 64 - sh < bitsN n by omega, h2, pow_split (show sh ≤ 64 by omega)]
  exact ⟨fun h => Nat.mul_le_mul_right _ h, fun h => Nat.le_of_mul_le_mul_right h (Nat.two_pow_pos sh)⟩
theorem bits_le {n : Nat} (hn : n < 128) : bitsN n ≤ 8 := by
  have h1 := bits_iff ⟨n, hn⟩ ⟨8, by omega⟩
  have h2 : (8 < bitsN n) ↔ 2 ^ 8 ≤ n := by rw [← h1]
  omega
theorem of_fin {p : Nat → Prop} (h : ∀ m : Fin 128, p m.val) : ∀ n, n < 128 → p n := fun n hn => h ⟨n, hn⟩
set_option maxHeartbeats 2000000 in
set_option maxRecDepth 100000 in
theorem bits_Len8 (n : Nat) (hn : n < 128) (w : World) : Calls Tryz.prog 144 #[.int .u8 (n : Int)] w fun e w' => e = .returned (.int .i64 (bitsN n : Int)) ∧ Below w.heap.size w w' := by
  refine enter (args := [_]) (m := []) (F := []) Tryz.func144 rfl Tryz.ntmps144 (by simp) rfl ?_
  (repeat' (first|refine zza ?_|refine zc9 ?_|refine zzb fun w hw => ?_|refine zzh fun _ => ?_|refine zzi fun _ _ => ?_|refine zzj (fun _ => ?_) fun _ => ?_))
  apply WL_op rfl rfl (y_conv rfl)
  (repeat' (first|refine zza ?_|refine zc9 ?_|refine zzb fun w hw => ?_|refine zzh fun _ => ?_|refine zzi fun _ _ => ?_|refine zzj (fun _ => ?_) fun _ => ?_))
  refine ⟨congrArg (fun i => Ending.returned (.int .i64 i)) ?_, hw.below⟩
  clear hw
  revert n
  exact of_fin (by decide +kernel)

theorem or_add {acc v sh : Nat} (h : acc < 2 ^ sh) : acc ||| v * 2 ^ sh = acc + v * 2 ^ sh := by
  rw [Nat.or_comm, Nat.mul_comm, ← Nat.two_pow_add_eq_or_of_lt h, Nat.add_comm]
set_option maxHeartbeats 2000000 in
set_option maxRecDepth 100000 in
/-- a count: what is read, or nothing -/
theorem save_count' (b : Nat) (l : List UInt8) (k : Nat) (hl : l.length ≤ 1099511627776) (G : Rd) (w : World) (fp : List Nat) (hO : Own [rdr b l k] fp w) (hS : Rd.sub G fp w) :
    Calls Tryz.prog 118 #[.pointer (some ⟨b, 0, none⟩)] w fun e w' => (∃ n j, k + j ≤ l.length ∧ cntG 0 0 (l.drop k) = some (n, l.drop (k + j)) ∧ e = .returned (.int .u64 (n : Int)) ∧ Holds w fp (ro w fp G :: [rdr b l (k + j)]) w') ∨ (cntG 0 0 (l.drop k) = none ∧ e = .panicked brkP ∧ Keep w fp w') := by
  obtain ⟨Z, hZ⟩ : ∃ Z, cntG 0 0 (l.drop k) = Z := ⟨_, rfl⟩
  rw [hZ]
  refine enterR (args := [_]) hS hO Tryz.func118 rfl Tryz.ntmps118 (by simp) ?_
  (repeat' (first|refine zza ?_|refine zc9 ?_|refine zzb fun w hw => ?_|refine zzh fun _ => ?_|refine zzi fun _ _ => ?_|refine zzj (fun _ => ?_) fun _ => ?_))
  refine CW_loopK [(0,_)] zcov (fun x : Nat × Nat × Nat => [(3, .int .u64 (x.2.2 : Int)), (4, .int .i64 (x.2.1 : Int))]) (fun x => [rdr b l (k + x.1), ro w fp G]) (fun x => cntG x.2.1 x.2.2 (l.drop (k + x.1)) = Z ∧ x.2.2 < 2 ^ x.2.1 ∧ x.2.1 ≤ 70) (fun x => l.length - (k + x.1)) (0, 0, 0) ⟨hZ, by decide, by decide⟩ zcov zent ?_
  clear hZ hO hS
  rintro ⟨j, sh, acc⟩ ⟨hc, ha, h70⟩
  dsimp only at hc ha h70 ⊢
  cases hd : l[k + j]? with
  | none =>
    have hle : l.length ≤ k + j := by simpa using hd
    rw [List.drop_eq_nil_of_le hle, cntG] at hc
    subst hc
    (repeat' (first|refine zza ?_|refine zc9 ?_|refine zzb fun w hw => ?_|refine zzh fun _ => ?_|refine zzi fun _ _ => ?_|refine zzj (fun _ => ?_) fun _ => ?_))
    (apply WL_callUP1 (h := rdr b l (k + j)); (first | exact .here | exact .there .here | exact .there (.there .here) | exact .there (.there (.there .here)) | exact .there (.there (.there (.there .here))) | exact .there (.there (.there (.there (.there .here)))) | exact .there (.there (.there (.there (.there (.there .here)))))); (first | exact .here | exact .there .here | exact .there (.there .here) | exact .there (.there (.there .here)) | exact .there (.there (.there (.there .here))) | exact .there (.there (.there (.there (.there .here)))) | exact .there (.there (.there (.there (.there (.there .here)))))); rfl; rfl; rfl; (intro W fp hO hS; exact save_next_bad b l (k + j) hle G W fp hO hS))
    (repeat' (first|refine zza ?_|refine zc9 ?_|refine zzb fun w hw => ?_|refine zzh fun _ => ?_|refine zzi fun _ _ => ?_|refine zzj (fun _ => ?_) fun _ => ?_))
    exact .inr ⟨rfl, rfl, hw.keep⟩
  | some x =>
    rw [drop_cons hd, cntG] at hc
    have hx := x.toNat_lt
    have hkj : k + j < l.length := (List.getElem?_eq_some_iff.1 hd).1
    by_cases h63 : 63 < sh
    · rw [if_pos (.inl h63)] at hc
      subst hc
      (repeat' (first|refine zza ?_|refine zc9 ?_|refine zzb fun w hw => ?_|refine zzh fun _ => ?_|refine zzi fun _ _ => ?_|refine zzj (fun _ => ?_) fun _ => ?_))
      (apply WL_callU1 (h := rdr b l (k + j)); (first | exact .here | exact .there .here | exact .there (.there .here) | exact .there (.there (.there .here)) | exact .there (.there (.there (.there .here))) | exact .there (.there (.there (.there (.there .here)))) | exact .there (.there (.there (.there (.there (.there .here)))))); (first | exact .here | exact .there .here | exact .there (.there .here) | exact .there (.there (.there .here)) | exact .there (.there (.there (.there .here))) | exact .there (.there (.there (.there (.there .here)))) | exact .there (.there (.there (.there (.there (.there .here)))))); rfl; rfl; rfl; (intro W fp hO hS; exact save_next b l (k + j) x hd hl G W fp hO hS))
      (repeat' (first|refine zza ?_|refine zc9 ?_|refine zzb fun w hw => ?_|refine zzh fun _ => ?_|refine zzi fun _ _ => ?_|refine zzj (fun _ => ?_) fun _ => ?_))
      refine CW_seq ?_
      (repeat' (first|refine zza ?_|refine zc9 ?_|refine zzb fun w hw => ?_|refine zzh fun _ => ?_|refine zzi fun _ _ => ?_|refine zzj (fun _ => ?_) fun _ => ?_))
      exact .inr ⟨rfl, rfl, hw.keep⟩
    by_cases hz : x.toNat = 0 ∧ 0 < sh
    · rw [if_pos (.inr (.inl hz))] at hc
      subst hc
      obtain ⟨hz1, hz2⟩ := hz
      (repeat' (first|refine zza ?_|refine zc9 ?_|refine zzb fun w hw => ?_|refine zzh fun _ => ?_|refine zzi fun _ _ => ?_|refine zzj (fun _ => ?_) fun _ => ?_))
      (apply WL_callU1 (h := rdr b l (k + j)); (first | exact .here | exact .there .here | exact .there (.there .here) | exact .there (.there (.there .here)) | exact .there (.there (.there (.there .here))) | exact .there (.there (.there (.there (.there .here)))) | exact .there (.there (.there (.there (.there (.there .here)))))); (first | exact .here | exact .there .here | exact .there (.there .here) | exact .there (.there (.there .here)) | exact .there (.there (.there (.there .here))) | exact .there (.there (.there (.there (.there .here)))) | exact .there (.there (.there (.there (.there (.there .here)))))); rfl; rfl; rfl; (intro W fp hO hS; exact save_next b l (k + j) x hd hl G W fp hO hS))
      (repeat' (first|refine zza ?_|refine zc9 ?_|refine zzb fun w hw => ?_|refine zzh fun _ => ?_|refine zzi fun _ _ => ?_|refine zzj (fun _ => ?_) fun _ => ?_))
      refine CW_seq ?_
      (repeat' (first|refine zza ?_|refine zc9 ?_|refine zzb fun w hw => ?_|refine zzh fun _ => ?_|refine zzi fun _ _ => ?_|refine zzj (fun _ => ?_) fun _ => ?_))
      exact .inr ⟨rfl, rfl, hw.keep⟩
    have hsh : 2 ^ sh ≤ 2 ^ 63 := Nat.pow_le_pow_right (by omega) (by omega)
    have hv : x.toNat % 128 < 128 := by omega
    have hlen := bits_le hv
    have hiff := bits_shift hv (show sh ≤ 63 by omega)
    have hand := and127' x
    obtain ⟨v, hvv⟩ : ∃ v, v = x.toNat % 128 := ⟨_, rfl⟩
    rw [← hvv] at hv hlen hiff hand hc
    by_cases ho : 2 ^ 64 ≤ v * 2 ^ sh
    · rw [if_pos (.inr (.inr ho))] at hc
      subst hc
      have hb := hiff.2 ho
      clear hiff ho
      have h0 : x.toNat ≠ 0 := fun h => by omega
      (repeat' (first|refine zza ?_|refine zc9 ?_|refine zzb fun w hw => ?_|refine zzh fun _ => ?_|refine zzi fun _ _ => ?_|refine zzj (fun _ => ?_) fun _ => ?_))
      (apply WL_callU1 (h := rdr b l (k + j)); (first | exact .here | exact .there .here | exact .there (.there .here) | exact .there (.there (.there .here)) | exact .there (.there (.there (.there .here))) | exact .there (.there (.there (.there (.there .here)))) | exact .there (.there (.there (.there (.there (.there .here)))))); (first | exact .here | exact .there .here | exact .there (.there .here) | exact .there (.there (.there .here)) | exact .there (.there (.there (.there .here))) | exact .there (.there (.there (.there (.there .here)))) | exact .there (.there (.there (.there (.there (.there .here)))))); rfl; rfl; rfl; (intro W fp hO hS; exact save_next b l (k + j) x hd hl G W fp hO hS))
      (repeat' (first|refine zza ?_|refine zc9 ?_|refine zzb fun w hw => ?_|refine zzh fun _ => ?_|refine zzi fun _ _ => ?_|refine zzj (fun _ => ?_) fun _ => ?_))
      refine CW_seq ?_
      (repeat' (first|refine zza ?_|refine zc9 ?_|refine zzb fun w hw => ?_|refine zzh fun _ => ?_|refine zzi fun _ _ => ?_|refine zzj (fun _ => ?_) fun _ => ?_))
      apply WL_op rfl rfl (y_andB (b := 127) rfl rfl rfl (by show _ < 2 ^ 8; omega) (by decide))
      rw [hand]
      (apply WL_callV; rfl; rfl; rfl; (intro W hW; exact bits_Len8 v hv W))
      (repeat' (first|refine zza ?_|refine zc9 ?_|refine zzb fun w hw => ?_|refine zzh fun _ => ?_|refine zzi fun _ _ => ?_|refine zzj (fun _ => ?_) fun _ => ?_))
      exact .inr ⟨rfl, rfl, hw.keep⟩
    · rw [if_neg (fun h => h.elim h63 (fun h => h.elim hz ho))] at hc
      have hb : ¬ 64 < bitsN v + sh := fun h => ho (hiff.1 h)
      have ho' : v * 2 ^ sh < 2 ^ IntKind.u64.bits := Nat.lt_of_not_le ho
      have hacc : acc < 2 ^ IntKind.u64.bits := by show acc < 2 ^ 64; omega
      have hor := or_add (v := v) ha
      have hnew : acc + v * 2 ^ sh < 2 ^ (sh + 7) := by
        have h7 : 2 ^ (sh + 7) = 128 * 2 ^ sh := by rw [Nat.pow_add, Nat.mul_comm]
        have : v * 2 ^ sh ≤ 127 * 2 ^ sh := Nat.mul_le_mul_right _ (by omega)
        omega
      clear hiff ho
      by_cases h0 : x.toNat = 0
      · (repeat' (first|refine zza ?_|refine zc9 ?_|refine zzb fun w hw => ?_|refine zzh fun _ => ?_|refine zzi fun _ _ => ?_|refine zzj (fun _ => ?_) fun _ => ?_))
        (apply WL_callU1 (h := rdr b l (k + j)); (first | exact .here | exact .there .here | exact .there (.there .here) | exact .there (.there (.there .here)) | exact .there (.there (.there (.there .here))) | exact .there (.there (.there (.there (.there .here)))) | exact .there (.there (.there (.there (.there (.there .here)))))); (first | exact .here | exact .there .here | exact .there (.there .here) | exact .there (.there (.there .here)) | exact .there (.there (.there (.there .here))) | exact .there (.there (.there (.there (.there .here)))) | exact .there (.there (.there (.there (.there (.there .here)))))); rfl; rfl; rfl; (intro W fp hO hS; exact save_next b l (k + j) x hd hl G W fp hO hS))
        (repeat' (first|refine zza ?_|refine zc9 ?_|refine zzb fun w hw => ?_|refine zzh fun _ => ?_|refine zzi fun _ _ => ?_|refine zzj (fun _ => ?_) fun _ => ?_))
        refine CW_seq ?_
        (repeat' (first|refine zza ?_|refine zc9 ?_|refine zzb fun w hw => ?_|refine zzh fun _ => ?_|refine zzi fun _ _ => ?_|refine zzj (fun _ => ?_) fun _ => ?_))
        apply WL_op rfl rfl (y_andB (b := 127) rfl rfl rfl (by show _ < 2 ^ 8; omega) (by decide))
        rw [hand]
        (apply WL_callV; rfl; rfl; rfl; (intro W hW; exact bits_Len8 v hv W))
        (repeat' (first|refine zza ?_|refine zc9 ?_|refine zzb fun w hw => ?_|refine zzh fun _ => ?_|refine zzi fun _ _ => ?_|refine zzj (fun _ => ?_) fun _ => ?_))
        apply WL_op rfl rfl (y_andB (b := 127) rfl rfl rfl (by show _ < 2 ^ 8; omega) (by decide))
        rw [hand]
        (apply WL_op rfl rfl (y_u64 rfl (by omega)))
        (repeat' (first|refine zza ?_|refine zc9 ?_|refine zzb fun w hw => ?_|refine zzh fun _ => ?_|refine zzi fun _ _ => ?_|refine zzj (fun _ => ?_) fun _ => ?_))
        apply WL_op rfl rfl (y_shlB (n := sh) rfl rfl rfl (by show sh ≤ 64; omega) ho')
        apply WL_op rfl rfl (y_orB rfl rfl rfl hacc ho')
        rw [hor]
        by_cases h1 : x.toNat < 128
        · rw [if_pos h1] at hc
          subst hc
          (repeat' (first|refine zza ?_|refine zc9 ?_|refine zzb fun w hw => ?_|refine zzh fun _ => ?_|refine zzi fun _ _ => ?_|refine zzj (fun _ => ?_) fun _ => ?_))
          exact .inl ⟨acc + v * 2 ^ sh, j + 1, by omega, rfl, rfl, hw⟩
        · exact absurd (show x.toNat < 128 by omega) h1
      · (repeat' (first|refine zza ?_|refine zc9 ?_|refine zzb fun w hw => ?_|refine zzh fun _ => ?_|refine zzi fun _ _ => ?_|refine zzj (fun _ => ?_) fun _ => ?_))
        (apply WL_callU1 (h := rdr b l (k + j)); (first | exact .here | exact .there .here | exact .there (.there .here) | exact .there (.there (.there .here)) | exact .there (.there (.there (.there .here))) | exact .there (.there (.there (.there (.there .here)))) | exact .there (.there (.there (.there (.there (.there .here)))))); (first | exact .here | exact .there .here | exact .there (.there .here) | exact .there (.there (.there .here)) | exact .there (.there (.there (.there .here))) | exact .there (.there (.there (.there (.there .here)))) | exact .there (.there (.there (.there (.there (.there .here)))))); rfl; rfl; rfl; (intro W fp hO hS; exact save_next b l (k + j) x hd hl G W fp hO hS))
        (repeat' (first|refine zza ?_|refine zc9 ?_|refine zzb fun w hw => ?_|refine zzh fun _ => ?_|refine zzi fun _ _ => ?_|refine zzj (fun _ => ?_) fun _ => ?_))
        refine CW_seq ?_
        (repeat' (first|refine zza ?_|refine zc9 ?_|refine zzb fun w hw => ?_|refine zzh fun _ => ?_|refine zzi fun _ _ => ?_|refine zzj (fun _ => ?_) fun _ => ?_))
        apply WL_op rfl rfl (y_andB (b := 127) rfl rfl rfl (by show _ < 2 ^ 8; omega) (by decide))
        rw [hand]
        (apply WL_callV; rfl; rfl; rfl; (intro W hW; exact bits_Len8 v hv W))
        (repeat' (first|refine zza ?_|refine zc9 ?_|refine zzb fun w hw => ?_|refine zzh fun _ => ?_|refine zzi fun _ _ => ?_|refine zzj (fun _ => ?_) fun _ => ?_))
        apply WL_op rfl rfl (y_andB (b := 127) rfl rfl rfl (by show _ < 2 ^ 8; omega) (by decide))
        rw [hand]
        (apply WL_op rfl rfl (y_u64 rfl (by omega)))
        (repeat' (first|refine zza ?_|refine zc9 ?_|refine zzb fun w hw => ?_|refine zzh fun _ => ?_|refine zzi fun _ _ => ?_|refine zzj (fun _ => ?_) fun _ => ?_))
        apply WL_op rfl rfl (y_shlB (n := sh) rfl rfl rfl (by show sh ≤ 64; omega) ho')
        apply WL_op rfl rfl (y_orB rfl rfl rfl hacc ho')
        rw [hor]
        by_cases h1 : x.toNat < 128
        · rw [if_pos h1] at hc
          subst hc
          (repeat' (first|refine zza ?_|refine zc9 ?_|refine zzb fun w hw => ?_|refine zzh fun _ => ?_|refine zzi fun _ _ => ?_|refine zzj (fun _ => ?_) fun _ => ?_))
          exact .inl ⟨acc + v * 2 ^ sh, j + 1, by omega, rfl, rfl, hw⟩
        · rw [if_neg h1] at hc
          (repeat' (first|refine zza ?_|refine zc9 ?_|refine zzb fun w hw => ?_|refine zzh fun _ => ?_|refine zzi fun _ _ => ?_|refine zzj (fun _ => ?_) fun _ => ?_))
          exact EX_loop' (j + 1, sh + 7, acc + v * 2 ^ sh) ⟨zcov, zent, by dsimp only; omega, hc, hnew, by dsimp only; omega⟩
end Go.Proofs.YtdnkapfcnapadaaGreatDoor

namespace Go.Proofs.YtdnkapfcnapadaaGreatDoor
open Go.RowKit

theorem drop_app {l e r : List UInt8} {k : Nat} (h : l.drop k = e ++ r) (hk : k ≤ l.length) : r = l.drop (k + e.length) ∧ k + e.length ≤ l.length := by
  have h1 := congrArg List.length h
  rw [List.length_drop, List.length_append] at h1
  refine ⟨?_, by omega⟩
  rw [← List.drop_drop, h, List.drop_left]
theorem drop_inj {l : List UInt8} {i j : Nat} (h : l.drop i = l.drop j) (hi : i ≤ l.length) (hj : j ≤ l.length) : i = j := by
  have h1 := congrArg List.length h
  rw [List.length_drop, List.length_drop] at h1
  omega
theorem cnt_at {l r : List UInt8} {k n : Nat} (h : cntG 0 0 (l.drop k) = some (n, r)) (hk : k ≤ l.length) : ∃ k', k' ≤ l.length ∧ r = l.drop k' := by
  obtain ⟨h1, h2⟩ := drop_app (cnt_dec h).1 hk
  exact ⟨_, h2, h1⟩
theorem below_at {l r : List UInt8} {k m : Nat} {n : Int} (h : belowP m (l.drop k) = some (n, r)) (hk : k ≤ l.length) : ∃ k', k' ≤ l.length ∧ r = l.drop k' := by
  obtain ⟨h1, h2⟩ := drop_app (below_dec h).1 hk
  exact ⟨_, h2, h1⟩
theorem num_at {l r : List UInt8} {k : Nat} {n : Int} (h : numP (l.drop k) = some (n, r)) (hk : k ≤ l.length) : ∃ k', k' ≤ l.length ∧ r = l.drop k' := by
  obtain ⟨h1, h2⟩ := drop_app (num_dec h).1 hk
  exact ⟨_, h2, h1⟩
section
variable (b : Nat) (l : List UInt8) (k : Nat) (hl : l.length ≤ 1099511627776) (G : Rd) (w : World) (fp : List Nat) (hO : Own [rdr b l k] fp w) (hS : Rd.sub G fp w)
include hl hO hS
theorem count_ok {n k' : Nat} (hk' : k' ≤ l.length) (h : cntG 0 0 (l.drop k) = some (n, l.drop k')) :
    Calls Tryz.prog 118 #[.pointer (some ⟨b, 0, none⟩)] w fun e w' => e = .returned (.int .u64 (n : Int)) ∧ Holds w fp (ro w fp G :: [rdr b l k']) w' :=
  (save_count' b l k hl G w fp hO hS).mono fun e w' hq => by
    rcases hq with ⟨n', j, h1, h2, h3, h4⟩ | ⟨h2, _⟩
    · rw [h] at h2
      injection h2 with h2
      injection h2 with h5 h6
      have := drop_inj h6 hk' h1
      subst this h5
      exact ⟨h3, h4⟩
    · rw [h] at h2; cases h2
theorem count_bad (h : cntG 0 0 (l.drop k) = none) :
    Calls Tryz.prog 118 #[.pointer (some ⟨b, 0, none⟩)] w fun e w' => e = .panicked brkP ∧ Keep w fp w' :=
  (save_count' b l k hl G w fp hO hS).mono fun e w' hq => by
    rcases hq with ⟨n', j, h1, h2, h3, h4⟩ | ⟨_, h2⟩
    · rw [h] at h2; cases h2
    · exact h2
set_option maxHeartbeats 2000000 in
set_option maxRecDepth 100000 in
theorem below_ok {m k' : Nat} {n : Int} (hm : m ≤ 4096) (hk' : k' ≤ l.length) (h : belowP m (l.drop k) = some (n, l.drop k')) :
    Calls Tryz.prog 79 #[.pointer (some ⟨b, 0, none⟩), .int .i64 (m : Int)] w fun e w' => e = .returned (.int .i64 n) ∧ Holds w fp (ro w fp G :: [rdr b l k']) w' := by
  unfold belowP at h
  cases hc : cntG 0 0 (l.drop k) with
  | none => rw [hc] at h; cases h
  | some q =>
    obtain ⟨x, r⟩ := q
    rw [hc] at h
    simp only at h
    by_cases hx : m < x
    · rw [if_pos hx] at h; cases h
    · rw [if_neg hx] at h
      injection h with h
      injection h with h1 h2
      subst h1 h2
      refine enterR (args := [_, _]) hS hO Tryz.func79 rfl Tryz.ntmps79 (by simp) ?_
      (repeat' (first|refine zza ?_|refine zc9 ?_|refine zzb fun w hw => ?_|refine zzh fun _ => ?_|refine zzi fun _ _ => ?_|refine zzj (fun _ => ?_) fun _ => ?_))
      (apply WL_callU1 (h := rdr b l k); (first | exact .here | exact .there .here | exact .there (.there .here) | exact .there (.there (.there .here)) | exact .there (.there (.there (.there .here))) | exact .there (.there (.there (.there (.there .here)))) | exact .there (.there (.there (.there (.there (.there .here)))))); (first | exact .here | exact .there .here | exact .there (.there .here) | exact .there (.there (.there .here)) | exact .there (.there (.there (.there .here))) | exact .there (.there (.there (.there (.there .here)))) | exact .there (.there (.there (.there (.there (.there .here)))))); rfl; rfl; rfl; (intro W fp hO hS; exact count_ok b l k hl G W fp hO hS hk' hc))
      (repeat' (first|refine zza ?_|refine zc9 ?_|refine zzb fun w hw => ?_|refine zzh fun _ => ?_|refine zzi fun _ _ => ?_|refine zzj (fun _ => ?_) fun _ => ?_))
      refine CW_seq ?_
      (repeat' (first|refine zza ?_|refine zc9 ?_|refine zzb fun w hw => ?_|refine zzh fun _ => ?_|refine zzi fun _ _ => ?_|refine zzj (fun _ => ?_) fun _ => ?_))
      (apply WL_op rfl rfl (y_u64 rfl (by omega)))
      (repeat' (first|refine zza ?_|refine zc9 ?_|refine zzb fun w hw => ?_|refine zzh fun _ => ?_|refine zzi fun _ _ => ?_|refine zzj (fun _ => ?_) fun _ => ?_))
      exact ⟨rfl, hw⟩
set_option maxHeartbeats 2000000 in
set_option maxRecDepth 100000 in
theorem below_bad {m : Nat} (hm : m ≤ 4096) (hk : k ≤ l.length) (h : belowP m (l.drop k) = none) :
    Calls Tryz.prog 79 #[.pointer (some ⟨b, 0, none⟩), .int .i64 (m : Int)] w fun e w' => e = .panicked brkP ∧ Keep w fp w' := by
  unfold belowP at h
  refine enterR (args := [_, _]) hS hO Tryz.func79 rfl Tryz.ntmps79 (by simp) ?_
  cases hc : cntG 0 0 (l.drop k) with
  | none =>
    (repeat' (first|refine zza ?_|refine zc9 ?_|refine zzb fun w hw => ?_|refine zzh fun _ => ?_|refine zzi fun _ _ => ?_|refine zzj (fun _ => ?_) fun _ => ?_))
    (apply WL_callUP1 (h := rdr b l k); (first | exact .here | exact .there .here | exact .there (.there .here) | exact .there (.there (.there .here)) | exact .there (.there (.there (.there .here))) | exact .there (.there (.there (.there (.there .here)))) | exact .there (.there (.there (.there (.there (.there .here)))))); (first | exact .here | exact .there .here | exact .there (.there .here) | exact .there (.there (.there .here)) | exact .there (.there (.there (.there .here))) | exact .there (.there (.there (.there (.there .here)))) | exact .there (.there (.there (.there (.there (.there .here)))))); rfl; rfl; rfl; (intro W fp hO hS; exact count_bad b l k hl G W fp hO hS hc))
    (repeat' (first|refine zza ?_|refine zc9 ?_|refine zzb fun w hw => ?_|refine zzh fun _ => ?_|refine zzi fun _ _ => ?_|refine zzj (fun _ => ?_) fun _ => ?_))
    exact ⟨rfl, hw.keep⟩
  | some q =>
    obtain ⟨x, r⟩ := q
    rw [hc] at h
    simp only at h
    obtain ⟨k', h1, rfl⟩ := cnt_at hc hk
    by_cases hx : m < x
    · (repeat' (first|refine zza ?_|refine zc9 ?_|refine zzb fun w hw => ?_|refine zzh fun _ => ?_|refine zzi fun _ _ => ?_|refine zzj (fun _ => ?_) fun _ => ?_))
      (apply WL_callU1 (h := rdr b l k); (first | exact .here | exact .there .here | exact .there (.there .here) | exact .there (.there (.there .here)) | exact .there (.there (.there (.there .here))) | exact .there (.there (.there (.there (.there .here)))) | exact .there (.there (.there (.there (.there (.there .here)))))); (first | exact .here | exact .there .here | exact .there (.there .here) | exact .there (.there (.there .here)) | exact .there (.there (.there (.there .here))) | exact .there (.there (.there (.there (.there .here)))) | exact .there (.there (.there (.there (.there (.there .here)))))); rfl; rfl; rfl; (intro W fp hO hS; exact count_ok b l k hl G W fp hO hS h1 hc))
      (repeat' (first|refine zza ?_|refine zc9 ?_|refine zzb fun w hw => ?_|refine zzh fun _ => ?_|refine zzi fun _ _ => ?_|refine zzj (fun _ => ?_) fun _ => ?_))
      refine CW_seq ?_
      (repeat' (first|refine zza ?_|refine zc9 ?_|refine zzb fun w hw => ?_|refine zzh fun _ => ?_|refine zzi fun _ _ => ?_|refine zzj (fun _ => ?_) fun _ => ?_))
      (apply WL_op rfl rfl (y_u64 rfl (by omega)))
      (repeat' (first|refine zza ?_|refine zc9 ?_|refine zzb fun w hw => ?_|refine zzh fun _ => ?_|refine zzi fun _ _ => ?_|refine zzj (fun _ => ?_) fun _ => ?_))
      exact ⟨rfl, hw.keep⟩
    · rw [if_neg hx] at h; cases h
set_option maxHeartbeats 2000000 in
set_option maxRecDepth 100000 in
theorem number_ok {k' : Nat} {n : Int} (hk' : k' ≤ l.length) (h : numP (l.drop k) = some (n, l.drop k')) :
    Calls Tryz.prog 120 #[.pointer (some ⟨b, 0, none⟩)] w fun e w' => e = .returned (.int .i64 n) ∧ Holds w fp (ro w fp G :: [rdr b l k']) w' := by
  unfold numP at h
  cases hc : cntG 0 0 (l.drop k) with
  | none => rw [hc] at h; cases h
  | some q =>
    obtain ⟨x, r⟩ := q
    rw [hc] at h
    simp only at h
    injection h with h
    injection h with h1 h2
    subst h2
    have hx := (cnt_dec hc).2
    refine enterR (args := [_]) hS hO Tryz.func120 rfl Tryz.ntmps120 (by simp) ?_
    (repeat' (first|refine zza ?_|refine zc9 ?_|refine zzb fun w hw => ?_|refine zzh fun _ => ?_|refine zzi fun _ _ => ?_|refine zzj (fun _ => ?_) fun _ => ?_))
    (apply WL_callU1 (h := rdr b l k); (first | exact .here | exact .there .here | exact .there (.there .here) | exact .there (.there (.there .here)) | exact .there (.there (.there (.there .here))) | exact .there (.there (.there (.there (.there .here)))) | exact .there (.there (.there (.there (.there (.there .here)))))); (first | exact .here | exact .there .here | exact .there (.there .here) | exact .there (.there (.there .here)) | exact .there (.there (.there (.there .here))) | exact .there (.there (.there (.there (.there .here)))) | exact .there (.there (.there (.there (.there (.there .here)))))); rfl; rfl; rfl; (intro W fp hO hS; exact count_ok b l k hl G W fp hO hS hk' hc))
    (repeat' (first|refine zza ?_|refine zc9 ?_|refine zzb fun w hw => ?_|refine zzh fun _ => ?_|refine zzi fun _ _ => ?_|refine zzj (fun _ => ?_) fun _ => ?_))
    apply WL_op rfl rfl (y_andB (b := 1) rfl rfl rfl hx (by decide))
    rw [Nat.and_one_is_mod]
    by_cases h2 : x % 2 = 0
    · rw [h2]
      have hz : ((x : Int)) / 2 = n := by rw [← h1]; unfold zag; rw [if_pos h2]; omega
      (repeat' (first|refine zza ?_|refine zc9 ?_|refine zzb fun w hw => ?_|refine zzh fun _ => ?_|refine zzi fun _ _ => ?_|refine zzj (fun _ => ?_) fun _ => ?_))
      apply WL_op rfl rfl (y_xorZ rfl rfl rfl (by omega))
      (repeat' (first|refine zza ?_|refine zc9 ?_|refine zzb fun w hw => ?_|refine zzh fun _ => ?_|refine zzi fun _ _ => ?_|refine zzj (fun _ => ?_) fun _ => ?_))
      exact ⟨by rw [hz], hw⟩
    · have h3 : x % 2 = 1 := by omega
      rw [h3]
      have hz : -((x : Int) / 2) - 1 = n := by rw [← h1]; unfold zag; rw [if_neg h2]; omega
      (repeat' (first|refine zza ?_|refine zc9 ?_|refine zzb fun w hw => ?_|refine zzh fun _ => ?_|refine zzi fun _ _ => ?_|refine zzj (fun _ => ?_) fun _ => ?_))
      apply WL_op rfl rfl (y_xorM rfl rfl rfl (by omega))
      (repeat' (first|refine zza ?_|refine zc9 ?_|refine zzb fun w hw => ?_|refine zzh fun _ => ?_|refine zzi fun _ _ => ?_|refine zzj (fun _ => ?_) fun _ => ?_))
      exact ⟨by rw [hz], hw⟩
theorem number_bad (h : numP (l.drop k) = none) :
    Calls Tryz.prog 120 #[.pointer (some ⟨b, 0, none⟩)] w fun e w' => e = .panicked brkP ∧ Keep w fp w' := by
  unfold numP at h
  cases hc : cntG 0 0 (l.drop k) with
  | none =>
    refine enterR (args := [_]) hS hO Tryz.func120 rfl Tryz.ntmps120 (by simp) ?_
    (repeat' (first|refine zza ?_|refine zc9 ?_|refine zzb fun w hw => ?_|refine zzh fun _ => ?_|refine zzi fun _ _ => ?_|refine zzj (fun _ => ?_) fun _ => ?_))
    (apply WL_callUP1 (h := rdr b l k); (first | exact .here | exact .there .here | exact .there (.there .here) | exact .there (.there (.there .here)) | exact .there (.there (.there (.there .here))) | exact .there (.there (.there (.there (.there .here)))) | exact .there (.there (.there (.there (.there (.there .here)))))); (first | exact .here | exact .there .here | exact .there (.there .here) | exact .there (.there (.there .here)) | exact .there (.there (.there (.there .here))) | exact .there (.there (.there (.there (.there .here)))) | exact .there (.there (.there (.there (.there (.there .here)))))); rfl; rfl; rfl; (intro W fp hO hS; exact count_bad b l k hl G W fp hO hS hc))
    (repeat' (first|refine zza ?_|refine zc9 ?_|refine zzb fun w hw => ?_|refine zzh fun _ => ?_|refine zzi fun _ _ => ?_|refine zzj (fun _ => ?_) fun _ => ?_))
    exact ⟨rfl, hw.keep⟩
  | some q => rw [hc] at h; cases h
end
end Go.Proofs.YtdnkapfcnapadaaGreatDoor
