/-
  save.Sum.
  save's writer: counts, numbers, values.
  save's writer: values.
-/
import Derived.Test.YtdnkapfcnapadaaGreatDoorGo
import Derived.Test.YtdnkapfcnapadaaGreatDoorInst
import Derived.Test.YtdnkapfcnapadaaGreatDoorBitL
import Derived.Test.YtdnkapfcnapadaaGreatDoorSaveBody
import Derived.Test.YtdnkapfcnapadaaGreatDoorBldL
import Derived.Test.YtdnkapfcnapadaaGreatDoorOpen
namespace Go.Proofs.YtdnkapfcnapadaaGreatDoor
open Go.RowKit

theorem crcBit_nat (c : BitVec 32) : (crcBit c).toNat = if c.toNat &&& 1 = 1 then (c.toNat / 2) ^^^ 3988292384 else c.toNat / 2 := by
  have h : c.getLsbD 0 = decide (c.toNat &&& 1 = 1) := by
    rw [BitVec.getLsbD, Nat.testBit_zero, Nat.and_one_is_mod]
  unfold crcBit
  rw [h]
  by_cases h1 : c.toNat &&& 1 = 1
  · rw [decide_eq_true h1, if_pos rfl, if_pos h1, BitVec.toNat_xor, BitVec.toNat_ushiftRight, Nat.shiftRight_eq_div_pow]
    rfl
  · rw [decide_eq_false h1, if_neg (by simp), if_neg h1, BitVec.toNat_ushiftRight, Nat.shiftRight_eq_div_pow]
theorem crcN_succ : ∀ (n : Nat) (c : BitVec 32), crcN (n + 1) c = crcBit (crcN n c)
  | 0, _ => rfl
  | n + 1, c => by rw [crcN, crcN_succ n]; rfl
theorem crcF_take {l : List UInt8} {k : Nat} {x : UInt8} (h : l[k]? = some x) (c : BitVec 32) : crcF c (l.take (k + 1)) = crcByte (crcF c (l.take k)) x := by
  unfold crcF
  rw [List.take_add_one, h, List.foldl_append]; rfl
theorem byte_xor32 (c : BitVec 32) (x : UInt8) : c.toNat ^^^ x.toNat = (c ^^^ BitVec.ofNat 32 x.toNat).toNat := by
  have := x.toNat_lt
  rw [BitVec.toNat_xor, BitVec.toNat_ofNat, Nat.mod_eq_of_lt (by omega)]
set_option maxRecDepth 100000 in
theorem save_Sum (l : List UInt8) (w : World) (hl : l.length ≤ 1099511627776) :
    Calls Tryz.prog 10 #[.string ⟨l.toArray⟩] w fun e w' => e = .returned (.int .i64 ((sumF l).toNat : Int)) ∧ Below w.heap.size w w' := by
  refine enter (args := [_]) (m := []) (F := []) Tryz.func10 rfl Tryz.ntmps10 (by simp) rfl ?_
  (repeat' (first|refine zza ?_|refine zc9 ?_|refine zzb fun w hw => ?_|refine zzh fun _ => ?_|refine zzi fun _ _ => ?_|refine zzj (fun _ => ?_) fun _ => ?_))
  refine CW_loopK [(0,_),(7,_)] zcov (fun x : Nat => [(8, .int .i64 x), (3, .int .u32 ((crcF 4294967295#32 (l.take x)).toNat : Int))]) (fun _ => []) (fun x => x ≤ l.length) (fun x => l.length - x) 0 (Nat.zero_le _) zcov zent ?_
  intro k hk
  by_cases hlt : k < l.length
  · have hc := crcF_take (get_some hlt (0 : UInt8)) 4294967295#32
    generalize crcF 4294967295#32 (l.take k) = c at hc ⊢
    have hc32 := c.isLt
    have hb := (l.getD k 0).toNat_lt
    have hx32 : c.toNat ^^^ (l.getD k 0).toNat = (c ^^^ BitVec.ofNat 32 (l.getD k 0).toNat).toNat := byte_xor32 c _
    (repeat' (first|refine zza ?_|refine zc9 ?_|refine zzb fun w hw => ?_|refine zzh fun _ => ?_|refine zzi fun _ _ => ?_|refine zzj (fun _ => ?_) fun _ => ?_))
    apply WL_op rfl rfl (y_xorB rfl rfl rfl hc32 (by show _ < 2 ^ 32; omega))
    rw [hx32]
    clear hx32
    (repeat' (first|refine zza ?_|refine zc9 ?_|refine zzb fun w hw => ?_|refine zzh fun _ => ?_|refine zzi fun _ _ => ?_|refine zzj (fun _ => ?_) fun _ => ?_))
    refine CW_loopK [(0,_),(7,_),(8,_)] zcov (fun r : Nat => [(17, .int .i64 r), (3, .int .u32 ((crcN r (c ^^^ BitVec.ofNat 32 (l.getD k 0).toNat)).toNat : Int))]) (fun _ => []) (fun r => r ≤ 8) (fun r => 8 - r) 0 (Nat.zero_le _) zcov zent ?_
    intro r hr
    by_cases hr8 : r < 8
    · have hs := crcN_succ r (c ^^^ BitVec.ofNat 32 (l.getD k 0).toNat)
      generalize crcN r (c ^^^ BitVec.ofNat 32 (l.getD k 0).toNat) = d at hs ⊢
      have hd := d.isLt
      have hn := crcBit_nat d
      (repeat' (first|refine zza ?_|refine zc9 ?_|refine zzb fun w hw => ?_|refine zzh fun _ => ?_|refine zzi fun _ _ => ?_|refine zzj (fun _ => ?_) fun _ => ?_))
      apply WL_op rfl rfl (y_andB (b := 1) rfl rfl rfl hd (by decide))
      have hh : ((d.toNat : Int)) / 2 = ((d.toNat / 2 : Nat) : Int) := by omega
      by_cases h1 : d.toNat &&& 1 = 1
      · rw [if_pos h1] at hn
        rw [h1]
        (repeat' (first|refine zza ?_|refine zc9 ?_|refine zzb fun w hw => ?_|refine zzh fun _ => ?_|refine zzi fun _ _ => ?_|refine zzj (fun _ => ?_) fun _ => ?_))
        rw [hh]
        apply WL_op rfl rfl (y_xorB (b := 3988292384) rfl rfl rfl (by show _ < 2 ^ 32; omega) (by decide))
        rw [← hn, ← hs]
        (repeat' (first|refine zza ?_|refine zc9 ?_|refine zzb fun w hw => ?_|refine zzh fun _ => ?_|refine zzi fun _ _ => ?_|refine zzj (fun _ => ?_) fun _ => ?_))
        exact EX_loop' (r + 1) ⟨zcov, zent, by omega, by omega⟩
      · rw [if_neg h1] at hn
        have h0 : d.toNat &&& 1 = 0 := by rw [Nat.and_one_is_mod] at h1 ⊢; omega
        rw [h0]
        (repeat' (first|refine zza ?_|refine zc9 ?_|refine zzb fun w hw => ?_|refine zzh fun _ => ?_|refine zzi fun _ _ => ?_|refine zzj (fun _ => ?_) fun _ => ?_))
        rw [hh, ← hn, ← hs]
        exact EX_loop' (r + 1) ⟨zcov, zent, by omega, by omega⟩
    · have hr' : r = 8 := by omega
      subst hr'
      have hb8 : crcN 8 (c ^^^ BitVec.ofNat 32 (l.getD k 0).toNat) = crcByte c (l.getD k 0) := rfl
      rw [hb8, ← hc]
      (repeat' (first|refine zza ?_|refine zc9 ?_|refine zzb fun w hw => ?_|refine zzh fun _ => ?_|refine zzi fun _ _ => ?_|refine zzj (fun _ => ?_) fun _ => ?_))
      exact EX_loop' (k + 1) ⟨zcov, zent, by omega, by omega⟩
  · have hkl : k = l.length := by omega
    subst hkl
    rw [List.take_length]
    have h32 := (crcF 4294967295#32 l).isLt
    have hS : 4294967295 - (crcF 4294967295#32 l).toNat = (sumF l).toNat := by
      unfold sumF; rw [BitVec.toNat_not]
    (repeat' (first|refine zza ?_|refine zc9 ?_|refine zzb fun w hw => ?_|refine zzh fun _ => ?_|refine zzi fun _ _ => ?_|refine zzj (fun _ => ?_) fun _ => ?_))
    apply WL_op rfl rfl (y_notB rfl (by omega))
    rw [hS]
    have h32' := (sumF l).isLt
    (repeat' (first|refine zza ?_|refine zc9 ?_|refine zzb fun w hw => ?_|refine zzh fun _ => ?_|refine zzi fun _ _ => ?_|refine zzj (fun _ => ?_) fun _ => ?_))
    exact ⟨rfl, hw.below⟩
end Go.Proofs.YtdnkapfcnapadaaGreatDoor

namespace Go.Proofs.YtdnkapfcnapadaaGreatDoor
open Go.RowKit

abbrev WrT : TypeId := 83
theorem lies_wr : Lies WrT := ⟨by kernel_rfl, by decide⟩
theorem or128 : ∀ x : Fin 256, x.val ||| 128 = x.val % 128 + 128 := by decide +kernel
theorem or128' {n : Nat} (h : n < 256) : n ||| 128 = n % 128 + 128 := or128 ⟨n, h⟩
theorem cntB_len : ∀ (n : Nat), 1 ≤ (cntB n).length := fun n => by
  rw [cntB]; split <;> simp
theorem cntB_len10 {n : Nat} (h : n < 2 ^ 64) : (cntB n).length ≤ 10 := by
  have key : ∀ (k n : Nat), n < 128 ^ (k + 1) → (cntB n).length ≤ k + 1 := by
    intro k
    induction k with
    | zero => intro n h; rw [cntB_small (by simpa using h)]; simp
    | succ k ih =>
      intro n h
      rw [cntB]
      split
      · simp
      · rw [List.length_cons]
        have := ih (n / 128) (by rw [Nat.div_lt_iff_lt_mul (by decide), ← Nat.pow_succ]; exact h)
        omega
  exact key 9 n (Nat.lt_of_lt_of_le h (by decide))
set_option maxRecDepth 100000 in
theorem save_count (b : Nat) (l : List UInt8) (n : Nat) (hn : n < 2 ^ 64) (hl : (l ++ cntB n).length ≤ 1099511627776) (w : World) (fp : List Nat) (h : (bldr WrT b l).p w fp) :
    Calls Tryz.prog 35 #[.pointer (some ⟨b, 0, none⟩), .int .u64 (n : Int)] w fun e w' => ∃ _ : Unit, True ∧ e = .returned (.tuple #[]) ∧ Holds w fp [bldr WrT b (l ++ cntB n)] w' := by
  refine enter (args := [_, _]) (m := [bldr WrT b l]) (F := fp) Tryz.func35 rfl Tryz.ntmps35 (by simp) ⟨fp, [], by simp, h, rfl, by simp⟩ ?_
  refine CW_seq ?_
  refine CW_block ?_
  refine CW_loopK [(0,_)] zcov (fun x : Nat × List UInt8 => [(1, .int .u64 (x.1 : Int))]) (fun x => [bldr WrT b x.2]) (fun x => x.1 < 2 ^ 64 ∧ x.2 ++ cntB x.1 = l ++ cntB n) (fun x => x.1) (n, l) ⟨hn, rfl⟩ zcov zent ?_
  rintro ⟨q, u⟩ ⟨hq, hu⟩
  dsimp only at hq hu ⊢
  have hle : u.length + (cntB q).length ≤ 1099511627776 := by rw [← List.length_append, hu]; exact hl
  have h1 := cntB_len q
  by_cases hb : q < 128
  · obtain ⟨y, rfl⟩ : ∃ y : UInt8, q = y.toNat := ⟨UInt8.ofNat q, (toNat_ofNat8 (by omega)).symm⟩
    rw [cntB_small hb, ofNat_toNat8] at hu
    (repeat' (first|refine zza ?_|refine zc9 ?_|refine zzb fun w hw => ?_|refine zzh fun _ => ?_|refine zzi fun _ _ => ?_|refine zzj (fun _ => ?_) fun _ => ?_))
    (apply WL_callW; rfl; rfl; rfl; exact .here; (intro W fp hW hP hF; exact bldr_WriteByte WrT lies_wr b u y W fp hP (by omega)); intro _ _)
    (repeat' (first|refine zza ?_|refine zc9 ?_|refine zzb fun w hw => ?_|refine zzh fun _ => ?_|refine zzi fun _ _ => ?_|refine zzj (fun _ => ?_) fun _ => ?_))
    rw [hu] at hw
    exact ⟨(), trivial, rfl, hw⟩
  · have hn1 := toNat_ofNat8 (n := q % 128 + 128) (by omega)
    rw [cntB_big hb] at hu
    have e8 : (q : Int) % 256 = ((q % 256 : Nat) : Int) := by omega
    have e9 : (((q % 256) ||| 128 : Nat) : Int) = ((UInt8.ofNat (q % 128 + 128)).toNat : Int) := by
      rw [hn1, or128' (by omega)]; omega
    have e7 : (q : Int) / 128 = ((q / 128 : Nat) : Int) := by omega
    (repeat' (first|refine zza ?_|refine zc9 ?_|refine zzb fun w hw => ?_|refine zzh fun _ => ?_|refine zzi fun _ _ => ?_|refine zzj (fun _ => ?_) fun _ => ?_))
    rw [e8]
    apply WL_op rfl rfl (y_orB (b := 128) rfl rfl rfl (by show _ < 2 ^ 8; omega) (by decide))
    rw [e9]
    generalize UInt8.ofNat (q % 128 + 128) = y at hu ⊢
    (apply WL_callW; rfl; rfl; rfl; exact .here; (intro W fp hW hP hF; exact bldr_WriteByte WrT lies_wr b u y W fp hP (by omega)); intro _ _)
    (repeat' (first|refine zza ?_|refine zc9 ?_|refine zzb fun w hw => ?_|refine zzh fun _ => ?_|refine zzi fun _ _ => ?_|refine zzj (fun _ => ?_) fun _ => ?_))
    rw [e7]
    exact EX_loop' (q / 128, u ++ [y]) ⟨zcov, zent, by dsimp only; omega, by dsimp only; omega, by dsimp only; rw [← hu]; simp⟩
set_option maxRecDepth 100000 in
theorem save_number (b : Nat) (l : List UInt8) (n : Int) (hn : I64 n) (hl : (l ++ cntB (zig n)).length ≤ 1099511627776) (w : World) (fp : List Nat) (h : (bldr WrT b l).p w fp) :
    Calls Tryz.prog 74 #[.pointer (some ⟨b, 0, none⟩), .int .i64 n] w fun e w' => ∃ _ : Unit, True ∧ e = .returned (.tuple #[]) ∧ Holds w fp [bldr WrT b (l ++ cntB (zig n))] w' := by
  have hz := zig_lt hn
  unfold I64 at hn
  refine enter (args := [_, _]) (m := [bldr WrT b l]) (F := fp) Tryz.func74 rfl Tryz.ntmps74 (by simp) ⟨fp, [], by simp, h, rfl, by simp⟩ ?_
  (repeat' (first|refine zza ?_|refine zc9 ?_|refine zzb fun w hw => ?_|refine zzh fun _ => ?_|refine zzi fun _ _ => ?_|refine zzj (fun _ => ?_) fun _ => ?_))
  apply WL_op rfl rfl (y_conv rfl)
  apply WL_op rfl rfl (y_shl1 rfl rfl)
  (repeat' (first|refine zza ?_|refine zc9 ?_|refine zzb fun w hw => ?_|refine zzh fun _ => ?_|refine zzi fun _ _ => ?_|refine zzj (fun _ => ?_) fun _ => ?_))
  apply WL_op rfl rfl (y_shr (n := 63) rfl rfl rfl)
  apply WL_op rfl rfl (y_conv rfl)
  by_cases h0 : 0 ≤ n
  · have e1 : IntKind.u64.wrap (IntKind.u64.wrap n * 2) = ((zig n : Nat) : Int) := by
      rw [u64_wrap_nn ⟨h0, by omega⟩, u64_wrap_nn ⟨by omega, by omega⟩]; unfold zig; rw [if_pos h0]; omega
    have e2 : IntKind.u64.wrap (n / 2 ^ 63) = ((0 : Nat) : Int) := by
      rw [show n / 2 ^ 63 = 0 by omega]; rfl
    rw [e1, e2]
    apply WL_op rfl rfl (y_xorB rfl rfl rfl hz (by decide))
    rw [Nat.xor_zero]
    (apply WL_callW; rfl; rfl; rfl; exact .here; (intro W fp hW hP hF; exact save_count b l (zig n) hz hl W fp hP); intro _ _)
    (repeat' (first|refine zza ?_|refine zc9 ?_|refine zzb fun w hw => ?_|refine zzh fun _ => ?_|refine zzi fun _ _ => ?_|refine zzj (fun _ => ?_) fun _ => ?_))
    exact ⟨(), trivial, rfl, hw⟩
  · have e1 : IntKind.u64.wrap (IntKind.u64.wrap n * 2) = ((18446744073709551615 - zig n : Nat) : Int) := by
      have w1 : IntKind.u64.wrap n = n + 18446744073709551616 := u64_wrap_neg ⟨by omega, by omega⟩
      rw [w1]
      have : IntKind.u64.wrap ((n + 18446744073709551616) * 2) = IntKind.u64.wrap (n * 2) := by
        simp [IntKind.wrap, IntKind.bits, IntKind.signed]; omega
      rw [this, u64_wrap_neg ⟨by omega, by omega⟩]; unfold zig; rw [if_neg h0]; omega
    have e2 : IntKind.u64.wrap (n / 2 ^ 63) = ((18446744073709551615 : Nat) : Int) := by
      rw [show n / 2 ^ 63 = -1 by omega]; rfl
    rw [e1, e2]
    apply WL_op rfl rfl (y_xorB rfl rfl rfl (by show _ < 2 ^ 64; omega) (by decide))
    rw [xor_ones (by omega), show 18446744073709551615 - (18446744073709551615 - zig n) = zig n by omega]
    (apply WL_callW; rfl; rfl; rfl; exact .here; (intro W fp hW hP hF; exact save_count b l (zig n) hz hl W fp hP); intro _ _)
    (repeat' (first|refine zza ?_|refine zc9 ?_|refine zzb fun w hw => ?_|refine zzh fun _ => ?_|refine zzi fun _ _ => ?_|refine zzj (fun _ => ?_) fun _ => ?_))
    exact ⟨(), trivial, rfl, hw⟩
end Go.Proofs.YtdnkapfcnapadaaGreatDoor

namespace Go.Proofs.YtdnkapfcnapadaaGreatDoor
open Go.RowKit

theorem flat_take {α : Type} {f : α → List UInt8} {xs : List α} {k : Nat} {x : α} (h : xs[k]? = some x) : (xs.take (k + 1)).flatMap f = (xs.take k).flatMap f ++ f x := by
  rw [List.take_add_one, h]; simp
theorem flat_le {α : Type} {f : α → List UInt8} {xs : List α} {k : Nat} {x : α} (h : xs[k]? = some x) : ((xs.take k).flatMap f).length + (f x).length ≤ (xs.flatMap f).length := by
  have h1 := List.take_append_drop (k + 1) xs
  have h2 : ((xs.take (k + 1)).flatMap f ++ (xs.drop (k + 1)).flatMap f).length = (xs.flatMap f).length := by rw [← List.flatMap_append, h1]
  rw [flat_take h, List.length_append, List.length_append] at h2
  omega
set_option maxRecDepth 100000 in
theorem save_value (b : Nat) (l : List UInt8) (ch : Bool) (p q : Option Addr) (c c2 : Nat) (s d : List Int) (G : Rd) (hs : Row encI 1 G p c s) (hd : Row encI 1 G q c2 d) (h0 : ∀ n ∈ s, 0 ≤ n ∧ n ≤ 4096) (h6 : s.length ≤ 6) (hd64 : ∀ n ∈ d, I64 n)
    (hl : (l ++ valB ch s d).length ≤ 1099511627776) (w : World) (fp : List Nat) (hO : Own [bldr WrT b l] fp w) (hS : Rd.sub G fp w) :
    Calls Tryz.prog 37 #[.pointer (some ⟨b, 0, none⟩), .agg #[.bool ch, .slice p s.length c, .slice q d.length c2]] w fun e w' => e = .returned (.tuple #[]) ∧ Holds w fp (ro w fp G :: [bldr WrT b (l ++ valB ch s d)]) w' := by
  have hls := hs.len
  have hld := hd.len
  obtain ⟨x0, hx0⟩ : ∃ x0 : UInt8, x0 = if ch = true then 1 else 0 := ⟨_, rfl⟩
  have hv : valB ch s d = x0 :: (cntB s.length ++ (s.flatMap (fun n => cntB n.toNat) ++ d.flatMap (fun n => cntB (zig n)))) := by rw [hx0]; rfl
  rw [hv] at hl ⊢
  simp only [List.length_append, List.length_cons] at hl
  refine enterR (args := [_, _]) hS hO Tryz.func37 rfl Tryz.ntmps37 (by simp) ?_
  (repeat' (first|refine zza ?_|refine zc9 ?_|refine zzb fun w hw => ?_|refine zzh fun _ => ?_|refine zzi fun _ _ => ?_|refine zzj (fun _ => ?_) fun _ => ?_))
  rename_i b3
  refine CW_cutP (X := Unit) [(0,_),(3,_)] zcov (fun _ => [(4, .int .u8 (x0.toNat : Int))]) (fun _ => True) ?_ (fun _ _ => ?_)
  · cases ch with
    | true =>
      (repeat' (first|refine zza ?_|refine zc9 ?_|refine zzb fun w hw => ?_|refine zzh fun _ => ?_|refine zzi fun _ _ => ?_|refine zzj (fun _ => ?_) fun _ => ?_))
      subst hx0
      exact EX_mid' () ⟨zcov, Ent.refl, trivial⟩
    | false =>
      (repeat' (first|refine zza ?_|refine zc9 ?_|refine zzb fun w hw => ?_|refine zzh fun _ => ?_|refine zzi fun _ _ => ?_|refine zzj (fun _ => ?_) fun _ => ?_))
      subst hx0
      exact EX_mid' () ⟨zcov, Ent.refl, trivial⟩
  clear hx0 hv
  (repeat' (first|refine zza ?_|refine zc9 ?_|refine zzb fun w hw => ?_|refine zzh fun _ => ?_|refine zzi fun _ _ => ?_|refine zzj (fun _ => ?_) fun _ => ?_))
  (apply WL_callW (h := bldr WrT b l); rfl; rfl; rfl; (first | exact .here | exact .there .here | exact .there (.there .here) | exact .there (.there (.there .here)) | exact .there (.there (.there (.there .here))) | exact .there (.there (.there (.there (.there .here)))) | exact .there (.there (.there (.there (.there (.there .here)))))); (intro W fp hW hP hF; exact bldr_WriteByte WrT lies_wr b l x0 W fp hP (by omega)); intro _ _)
  (repeat' (first|refine zza ?_|refine zc9 ?_|refine zzb fun w hw => ?_|refine zzh fun _ => ?_|refine zzi fun _ _ => ?_|refine zzj (fun _ => ?_) fun _ => ?_))
  (apply WL_op rfl rfl (y_u64 rfl (by omega)))
  (apply WL_callW (h := bldr WrT b (l ++ [x0])); rfl; rfl; rfl; (first | exact .here | exact .there .here | exact .there (.there .here) | exact .there (.there (.there .here)) | exact .there (.there (.there (.there .here))) | exact .there (.there (.there (.there (.there .here)))) | exact .there (.there (.there (.there (.there (.there .here)))))); (intro W fp hW hP hF; exact save_count b (l ++ [x0]) s.length (by omega) (by simp only [List.length_append, List.length_singleton]; omega) W fp hP); intro _ _)
  (repeat' (first|refine zza ?_|refine zc9 ?_|refine zzb fun w hw => ?_|refine zzh fun _ => ?_|refine zzi fun _ _ => ?_|refine zzj (fun _ => ?_) fun _ => ?_))
  refine CW_loopK [(0,_),(3,_),(23,_),(24,_)] zcov (fun x : Nat => [(25, .int .i64 x)]) (fun x => [bldr WrT b (l ++ [x0] ++ cntB s.length ++ (s.take x).flatMap (fun n => cntB n.toNat)), blk b3 87 #[.bool ch, .slice p s.length c, .slice q d.length c2], ro w fp G]) (fun x => x ≤ s.length) (fun x => s.length - x) 0 (Nat.zero_le _) zcov (by simp only [List.take_zero, List.flatMap_nil, List.append_nil]; exact zent) ?_
  · intro k hk
    by_cases hlt : k < s.length
    · obtain ⟨u, hu⟩ : ∃ u, s[k]? = some u := ⟨s[k], by simp [hlt]⟩
      obtain ⟨u0, u1⟩ := h0 u (List.mem_of_getElem? hu)
      have hf := flat_take (f := fun n : Int => cntB n.toNat) hu
      have hfl := flat_le (f := fun n : Int => cntB n.toNat) hu
      obtain ⟨v, rfl⟩ := Int.eq_ofNat_of_zero_le u0
      simp only [Int.toNat_natCast] at hf hfl
      (repeat' (first|refine zza ?_|refine zc9 ?_|refine zzb fun w hw => ?_|refine zzh fun _ => ?_|refine zzi fun _ _ => ?_|refine zzj (fun _ => ?_) fun _ => ?_))
      apply WL_op rfl rfl (y_load rfl (rd_row (enc := encI) hs zpk hu))
      (repeat' (first|refine zza ?_|refine zc9 ?_|refine zzb fun w hw => ?_|refine zzh fun _ => ?_|refine zzi fun _ _ => ?_|refine zzj (fun _ => ?_) fun _ => ?_))
      (apply WL_op rfl rfl (y_u64 rfl (by omega)))
      (apply WL_callW (h := bldr WrT b (l ++ [x0] ++ cntB s.length ++ (s.take k).flatMap (fun n => cntB n.toNat))); rfl; rfl; rfl; (first | exact .here | exact .there .here | exact .there (.there .here) | exact .there (.there (.there .here)) | exact .there (.there (.there (.there .here))) | exact .there (.there (.there (.there (.there .here)))) | exact .there (.there (.there (.there (.there (.there .here)))))); (intro W fp hW hP hF; exact save_count b (l ++ [x0] ++ cntB s.length ++ (s.take k).flatMap (fun n => cntB n.toNat)) v (by omega) (by simp only [List.length_append, List.length_singleton]; omega) W fp hP); intro _ _)
      (repeat' (first|refine zza ?_|refine zc9 ?_|refine zzb fun w hw => ?_|refine zzh fun _ => ?_|refine zzi fun _ _ => ?_|refine zzj (fun _ => ?_) fun _ => ?_))
      refine EX_loop' (k + 1) ⟨zcov, ?_, by omega, by omega⟩
      rw [hf, ← List.append_assoc]
      exact zent
    · have hks : k = s.length := by omega
      subst hks
      rw [List.take_length]
      (repeat' (first|refine zza ?_|refine zc9 ?_|refine zzb fun w hw => ?_|refine zzh fun _ => ?_|refine zzi fun _ _ => ?_|refine zzj (fun _ => ?_) fun _ => ?_))
      refine CW_loopK [(0,_),(35,_),(36,_)] zcov (fun x : Nat => [(37, .int .i64 x)]) (fun x => [bldr WrT b (l ++ [x0] ++ cntB s.length ++ s.flatMap (fun n => cntB n.toNat) ++ (d.take x).flatMap (fun n => cntB (zig n))), ro w fp G]) (fun x => x ≤ d.length) (fun x => d.length - x) 0 (Nat.zero_le _) zcov (by simp only [List.take_zero, List.flatMap_nil, List.append_nil]; exact zent) ?_
      intro k hk
      by_cases hlt : k < d.length
      · obtain ⟨u, hu⟩ : ∃ u, d[k]? = some u := ⟨d[k], by simp [hlt]⟩
        have hu64 := hd64 u (List.mem_of_getElem? hu)
        have hf := flat_take (f := fun n : Int => cntB (zig n)) hu
        have hfl := flat_le (f := fun n : Int => cntB (zig n)) hu
        (repeat' (first|refine zza ?_|refine zc9 ?_|refine zzb fun w hw => ?_|refine zzh fun _ => ?_|refine zzi fun _ _ => ?_|refine zzj (fun _ => ?_) fun _ => ?_))
        apply WL_op rfl rfl (y_load rfl (rd_row (enc := encI) hd zpk hu))
        (repeat' (first|refine zza ?_|refine zc9 ?_|refine zzb fun w hw => ?_|refine zzh fun _ => ?_|refine zzi fun _ _ => ?_|refine zzj (fun _ => ?_) fun _ => ?_))
        (apply WL_callW (h := bldr WrT b (l ++ [x0] ++ cntB s.length ++ s.flatMap (fun n => cntB n.toNat) ++ (d.take k).flatMap (fun n => cntB (zig n)))); rfl; rfl; rfl; (first | exact .here | exact .there .here | exact .there (.there .here) | exact .there (.there (.there .here)) | exact .there (.there (.there (.there .here))) | exact .there (.there (.there (.there (.there .here)))) | exact .there (.there (.there (.there (.there (.there .here)))))); (intro W fp hW hP hF; exact save_number b (l ++ [x0] ++ cntB s.length ++ s.flatMap (fun n => cntB n.toNat) ++ (d.take k).flatMap (fun n => cntB (zig n))) u hu64 (by simp only [List.length_append, List.length_singleton]; omega) W fp hP); intro _ _)
        (repeat' (first|refine zza ?_|refine zc9 ?_|refine zzb fun w hw => ?_|refine zzh fun _ => ?_|refine zzi fun _ _ => ?_|refine zzj (fun _ => ?_) fun _ => ?_))
        refine EX_loop' (k + 1) ⟨zcov, ?_, by omega, by omega⟩
        rw [hf, ← List.append_assoc]
        exact zent
      · have hks : k = d.length := by omega
        subst hks
        rw [List.take_length]
        (repeat' (first|refine zza ?_|refine zc9 ?_|refine zzb fun w hw => ?_|refine zzh fun _ => ?_|refine zzi fun _ _ => ?_|refine zzj (fun _ => ?_) fun _ => ?_))
        refine ⟨rfl, ?_⟩
        have e : l ++ x0 :: (cntB s.length ++ (s.flatMap (fun n => cntB n.toNat) ++ d.flatMap (fun n => cntB (zig n)))) = l ++ [x0] ++ cntB s.length ++ s.flatMap (fun n => cntB n.toNat) ++ d.flatMap (fun n => cntB (zig n)) := by simp
        rw [e]
        exact hw.ent zent
end Go.Proofs.YtdnkapfcnapadaaGreatDoor
