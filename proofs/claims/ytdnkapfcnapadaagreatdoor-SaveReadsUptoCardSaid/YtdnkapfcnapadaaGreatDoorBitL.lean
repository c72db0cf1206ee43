/-
  The logic of walks: bits of unsigned numbers; shifts. Of no program.
  The logic of walks: a map from strings to ints that is the call's own. Of no program.
-/
import Derived.Test.YtdnkapfcnapadaaGreatDoorOps
import Derived.Test.YtdnkapfcnapadaaGreatDoorRd
import Derived.MapKept
import Derived.WideMake
namespace Go.Proofs.YtdnkapfcnapadaaGreatDoor
open Go.RowKit

theorem wrap_nat {k : IntKind} (hk : k.signed = false) {n : Nat} (h : n < 2 ^ k.bits) : k.wrap (n : Int) = (n : Int) := by
  have h2 : ((n : Int)) % ((2 : Int) ^ k.bits) = (n : Int) := by
    have h3 : ((n : Int)) < (2 : Int) ^ k.bits := by exact_mod_cast h
    exact Int.emod_eq_of_lt (by omega) h3
  simp [IntKind.wrap, hk, h2]
theorem ofInt_nat {n w : Nat} (h : n < 2 ^ w) : (BitVec.ofInt w (n : Int)).toNat = n := by
  rw [BitVec.ofInt_natCast, BitVec.toNat_ofNat, Nat.mod_eq_of_lt h]
theorem run_andB {P : Program} {t : TypeId} {k : IntKind} (hk : k.signed = false) {a b : Nat} (ha : a < 2 ^ k.bits) (hb : b < 2 ^ k.bits) (w : World) : (binOp .and t (.int k (a : Int)) (.int k (b : Int))).run P w = .ok (.int k ((a &&& b : Nat) : Int)) w := by
  cases k <;> first
    | (cases hk; done)
    | (show Result.ok (Value.int _ (IntKind.wrap _ ((BitVec.ofInt _ (a : Int) &&& BitVec.ofInt _ (b : Int)).toNat : Int))) w = _
       rw [BitVec.toNat_and, ofInt_nat ha, ofInt_nat hb, wrap_nat rfl (Nat.lt_of_le_of_lt Nat.and_le_left ha)])
theorem run_orB {P : Program} {t : TypeId} {k : IntKind} (hk : k.signed = false) {a b : Nat} (ha : a < 2 ^ k.bits) (hb : b < 2 ^ k.bits) (w : World) : (binOp .or t (.int k (a : Int)) (.int k (b : Int))).run P w = .ok (.int k ((a ||| b : Nat) : Int)) w := by
  cases k <;> first
    | (cases hk; done)
    | (show Result.ok (Value.int _ (IntKind.wrap _ ((BitVec.ofInt _ (a : Int) ||| BitVec.ofInt _ (b : Int)).toNat : Int))) w = _
       rw [BitVec.toNat_or, ofInt_nat ha, ofInt_nat hb, wrap_nat rfl (Nat.or_lt_two_pow ha hb)])
theorem run_xorB {P : Program} {t : TypeId} {k : IntKind} (hk : k.signed = false) {a b : Nat} (ha : a < 2 ^ k.bits) (hb : b < 2 ^ k.bits) (w : World) : (binOp .xor t (.int k (a : Int)) (.int k (b : Int))).run P w = .ok (.int k ((a ^^^ b : Nat) : Int)) w := by
  cases k <;> first
    | (cases hk; done)
    | (show Result.ok (Value.int _ (IntKind.wrap _ ((BitVec.ofInt _ (a : Int) ^^^ BitVec.ofInt _ (b : Int)).toNat : Int))) w = _
       rw [BitVec.toNat_xor, ofInt_nat ha, ofInt_nat hb, wrap_nat rfl (Nat.xor_lt_two_pow ha hb)])
/-- ints: with 0, with -1 -/
theorem run_xorZ {P : Program} {t : TypeId} {a : Int} (ha : 0 ≤ a ∧ a ≤ 9223372036854775807) (w : World) : (binOp .xor t (.int .i64 a) (.int .i64 0)).run P w = .ok (.int .i64 a) w := by
  obtain ⟨n, rfl⟩ := Int.eq_ofNat_of_zero_le ha.1
  show Result.ok (Value.int .i64 (IntKind.i64.wrap ((BitVec.ofInt 64 (n : Int) ^^^ BitVec.ofInt 64 (0 : Int)).toNat : Int))) w = _
  rw [BitVec.toNat_xor, ofInt_nat (by omega), show (BitVec.ofInt 64 (0 : Int)).toNat = 0 from rfl, Nat.xor_zero, IntWalk.i64_in _ (by omega)]
theorem run_xorM {P : Program} {t : TypeId} {a : Int} (ha : 0 ≤ a ∧ a ≤ 9223372036854775807) (w : World) : (binOp .xor t (.int .i64 a) (.int .i64 (-1))).run P w = .ok (.int .i64 (-a - 1)) w := by
  obtain ⟨n, rfl⟩ := Int.eq_ofNat_of_zero_le ha.1
  show Result.ok (Value.int .i64 (IntKind.i64.wrap ((BitVec.ofInt 64 (n : Int) ^^^ BitVec.ofInt 64 (-1 : Int)).toNat : Int))) w = _
  rw [show BitVec.ofInt 64 (-1 : Int) = BitVec.allOnes 64 from rfl, BitVec.xor_allOnes, BitVec.toNat_not, ofInt_nat (by omega)]
  congr 2
  simp [IntKind.wrap, IntKind.bits, IntKind.signed]
  omega
section
variable {P : Program} {K : Cx} {ρ : Env} {m : List HP} {dst : Option Nat} {ty t t' : TypeId} {pos : String} {aft : Array Edge} {g : Option (Nat × Bool)} {x y z : Operand} {k : IntKind} {a b : Nat}
theorem y_andB (hx : opv ρ x = some (.int k (a : Int))) (hy : opv ρ y = some (.int k (b : Int))) (hk : k.signed = false) (ha : a < 2 ^ k.bits) (hb : b < 2 ^ k.bits) : Yi P K ρ m ⟨dst, .binOp .and t x y t', ty, pos, aft, g⟩ (.int k ((a &&& b : Nat) : Int)) := ⟨fun _ w hf _ => by
  simp only [execOp, hf.eval hx, hf.eval hy]
  have h1 := run_andB (P := P) (t := t) hk ha hb w
  simp only [eqGuard, Sem.run_bind]
  simp [h1]⟩
theorem y_orB (hx : opv ρ x = some (.int k (a : Int))) (hy : opv ρ y = some (.int k (b : Int))) (hk : k.signed = false) (ha : a < 2 ^ k.bits) (hb : b < 2 ^ k.bits) : Yi P K ρ m ⟨dst, .binOp .or t x y t', ty, pos, aft, g⟩ (.int k ((a ||| b : Nat) : Int)) := ⟨fun _ w hf _ => by
  simp only [execOp, hf.eval hx, hf.eval hy]
  have h1 := run_orB (P := P) (t := t) hk ha hb w
  simp only [eqGuard, Sem.run_bind]
  simp [h1]⟩
theorem y_xorB (hx : opv ρ x = some (.int k (a : Int))) (hy : opv ρ y = some (.int k (b : Int))) (hk : k.signed = false) (ha : a < 2 ^ k.bits) (hb : b < 2 ^ k.bits) : Yi P K ρ m ⟨dst, .binOp .xor t x y t', ty, pos, aft, g⟩ (.int k ((a ^^^ b : Nat) : Int)) := ⟨fun _ w hf _ => by
  simp only [execOp, hf.eval hx, hf.eval hy]
  have h1 := run_xorB (P := P) (t := t) hk ha hb w
  simp only [eqGuard, Sem.run_bind]
  simp [h1]⟩
theorem y_xorZ {i j : Int} (hx : opv ρ x = some (.int .i64 i)) (hy : opv ρ y = some (.int .i64 j)) (hj : j = 0) (ha : 0 ≤ i ∧ i ≤ 9223372036854775807) : Yi P K ρ m ⟨dst, .binOp .xor t x y t', ty, pos, aft, g⟩ (.int .i64 i) := ⟨fun _ w hf _ => by
  subst hj
  simp only [execOp, hf.eval hx, hf.eval hy]
  have h1 := run_xorZ (P := P) (t := t) ha w
  simp only [eqGuard, Sem.run_bind]
  simp [h1]⟩
theorem y_xorM {i j : Int} (hx : opv ρ x = some (.int .i64 i)) (hy : opv ρ y = some (.int .i64 j)) (hj : j = -1) (ha : 0 ≤ i ∧ i ≤ 9223372036854775807) : Yi P K ρ m ⟨dst, .binOp .xor t x y t', ty, pos, aft, g⟩ (.int .i64 (-i - 1)) := ⟨fun _ w hf _ => by
  subst hj
  simp only [execOp, hf.eval hx, hf.eval hy]
  have h1 := run_xorM (P := P) (t := t) ha w
  simp only [eqGuard, Sem.run_bind]
  simp [h1]⟩
/-- all bits of a u32 turned -/
theorem y_notB (hx : opv ρ x = some (.int .u32 (a : Int))) (ha : a < 4294967296) : Yi P K ρ m ⟨dst, .unOp .xor t x, ty, pos, aft, g⟩ (.int .u32 ((4294967295 - a : Nat) : Int)) := ⟨fun _ w hf _ => by
  have h1 : (Op.unary .xor (.int .u32 (a : Int))).run P w = .ok (.int .u32 ((4294967295 - a : Nat) : Int)) w := by
    show Result.ok (Value.int .u32 (IntKind.u32.wrap ((BitVec.ofInt 32 (4294967295 : Int) ^^^ BitVec.ofInt 32 (a : Int)).toNat : Int))) w = _
    rw [show BitVec.ofInt 32 (4294967295 : Int) = BitVec.allOnes 32 from rfl, BitVec.xor_comm, BitVec.xor_allOnes, BitVec.toNat_not, ofInt_nat (by omega), wrap_nat rfl (by show _ < 2 ^ 32; omega)]
  simp only [execOp, hf.eval hx]
  simp [h1]⟩
/-- a shift to the left -/
theorem y_shlB {n : Nat} {k' : IntKind} (hx : opv ρ x = some (.int k (a : Int))) (hy : opv ρ y = some (.int k' (n : Int))) (hk : k.signed = false) (hn : n ≤ k.bits) (ha : a * 2 ^ n < 2 ^ k.bits) : Yi P K ρ m ⟨dst, .binOp .shl t x y t', ty, pos, aft, g⟩ (.int k ((a * 2 ^ n : Nat) : Int)) := ⟨fun _ w hf _ => by
  have h1 : (binOp .shl t (.int k (a : Int)) (.int k' (n : Int))).run P w = .ok (.int k ((a * 2 ^ n : Nat) : Int)) w := by
    have h2 : ¬ ((n : Int) < 0) := by omega
    have h3 : min n k.bits = n := Nat.min_eq_left hn
    have h4 : k.wrap ((a : Int) * 2 ^ n) = ((a * 2 ^ n : Nat) : Int) := by
      rw [← wrap_nat hk ha]; simp
    simp [binOp, Op.shift, h2, h3, h4]
  simp only [execOp, hf.eval hx, hf.eval hy]
  simp only [eqGuard, Sem.run_bind]
  simp [h1]⟩
/-- .. by one of a number of 64 bits -/
theorem y_shl1 {i : Int} {k' : IntKind} (hx : opv ρ x = some (.int .u64 i)) (hy : opv ρ y = some (.int k' 1)) : Yi P K ρ m ⟨dst, .binOp .shl t x y t', ty, pos, aft, g⟩ (.int .u64 (IntKind.u64.wrap (i * 2))) := ⟨fun _ w hf _ => by
  have h1 : (binOp .shl t (.int .u64 i) (.int k' 1)).run P w = .ok (.int .u64 (IntKind.u64.wrap (i * 2))) w := by
    simp [binOp, Op.shift, IntKind.bits]
  simp only [execOp, hf.eval hx, hf.eval hy]
  simp only [eqGuard, Sem.run_bind]
  simp [h1]⟩
end
theorem u64_wrap_nn {i : Int} (h : 0 ≤ i ∧ i < 18446744073709551616) : IntKind.u64.wrap i = i := by
  obtain ⟨n, rfl⟩ := Int.eq_ofNat_of_zero_le h.1
  exact wrap_nat rfl (by show n < 2 ^ 64; omega)
theorem y_u64 {P : Program} {K : Cx} {ρ : Env} {m : List HP} {dst : Option Nat} {ty t t' : TypeId} {pos : String} {aft : Array Edge} {g : Option (Nat × Bool)} {x : Operand} {k : IntKind} {i : Int} [S : IntT P t k] [S' : IntT P t' .u64] (hx : opv ρ x = some (.int k i)) (h : 0 ≤ i ∧ i < 18446744073709551616) : Yi P K ρ m ⟨dst, .convert t t' x, ty, pos, aft, g⟩ (.int .u64 i) := y_conv_in hx (u64_wrap_nn h)
theorem u64_wrap_neg {i : Int} (h : -18446744073709551616 ≤ i ∧ i < 0) : IntKind.u64.wrap i = i + 18446744073709551616 := by
  simp [IntKind.wrap, IntKind.bits, IntKind.signed]
  omega
theorem xor_ones {n : Nat} (h : n < 18446744073709551616) : n ^^^ 18446744073709551615 = 18446744073709551615 - n := by
  have h1 : (BitVec.ofNat 64 n ^^^ BitVec.allOnes 64).toNat = n ^^^ 18446744073709551615 := by
    rw [BitVec.toNat_xor, BitVec.toNat_ofNat, Nat.mod_eq_of_lt (by omega)]; rfl
  rw [← h1, BitVec.xor_allOnes, BitVec.toNat_not, BitVec.toNat_ofNat, Nat.mod_eq_of_lt (by omega)]
end Go.Proofs.YtdnkapfcnapadaaGreatDoor

namespace Go.Proofs.YtdnkapfcnapadaaGreatDoor
open Go.RowKit

def mpEnt (q : (List UInt8 × Int) × Nat) : MapEntry := { key := .string ⟨q.1.1.toArray⟩, val := .int .i64 q.1.2, born := q.2 }
def mpE (ks : List (List UInt8 × Int)) : Array MapEntry := (ks.zipIdx.map mpEnt).toArray
/-- block b: the map with these names, in the order in which they came -/
def mp (b : Nat) (ks : List (List UInt8 × Int)) : HP where
  p w fp := fp = [b] ∧ w.heap[b]? = some (.map (mpE ks) ks.length)
  st w w' fp h := by rintro ⟨rfl, hb⟩; exact ⟨rfl, (h b (by simp)).trans hb⟩
  lt w fp := by
    rintro ⟨rfl, hb⟩ i hi
    have : i = b := by simpa using hi
    subst this
    exact (Array.getElem?_eq_some_iff.1 hb).1
/-- where a name stands, and what it has -/
def findK (l : List UInt8) : List (List UInt8 × Int) → Nat → Option (Nat × Int)
  | [], _ => none
  | k :: r, i => if l = k.1 then some (i, k.2) else findK l r (i + 1)
def getK (ks : List (List UInt8 × Int)) (l : List UInt8) : Int := ((findK l ks 0).map Prod.snd).getD 0
def hasK (ks : List (List UInt8 × Int)) (l : List UInt8) : Bool := (findK l ks 0).isSome
theorem findNow_mp (l : List UInt8) : ∀ (ks : List (List UInt8 × Int)) (j i : Nat), Instr.findNow .string (.string ⟨l.toArray⟩) ((ks.zipIdx j).map mpEnt) i = some ((findK l ks i).map fun q => (q.1, .int .i64 q.2))
  | [], _, _ => rfl
  | k :: r, j, i => by
    rw [List.zipIdx_cons, List.map_cons, Instr.findNow, findK]
    have h : Instr.sameNow .string (.string ⟨l.toArray⟩) (mpEnt (k, j)).key = some (decide (l = k.1)) := by
      show some ((⟨l.toArray⟩ : ByteArray) == ⟨k.1.toArray⟩) = _
      congr 1
      show (l.toArray == k.1.toArray) = _
      simp [lbeq]
    rw [h]
    by_cases e : l = k.1
    · rw [decide_eq_true e, if_pos e]; rfl
    · rw [decide_eq_false e, if_neg e]
      exact findNow_mp l r (j + 1) (i + 1)
theorem mpE_push (ks : List (List UInt8 × Int)) (k : List UInt8 × Int) : mpE (ks ++ [k]) = (mpE ks).push (mpEnt (k, ks.length)) := by
  unfold mpE
  rw [List.zipIdx_append, List.map_append]
  simp
theorem hasK_iff (ks : List (List UInt8 × Int)) (l : List UInt8) : hasK ks l = true ↔ l ∈ ks.map Prod.fst := by
  unfold hasK
  have key : ∀ (ks : List (List UInt8 × Int)) (i : Nat), (findK l ks i).isSome = true ↔ l ∈ ks.map Prod.fst := by
    intro ks
    induction ks with
    | nil => intro i; simp [findK]
    | cons k r ih =>
      intro i
      rw [findK]
      by_cases e : l = k.1
      · rw [if_pos e]; simp [e]
      · rw [if_neg e, ih (i + 1)]; simp [e]
  exact key ks 0
class MapT (P : Program) (t : TypeId) : Prop where
  ok : ∃ kt et, P.underlying t = some (.map kt et) ∧ P.underlying kt = some .string ∧ ∀ w, (zeroValue et).run P w = .ok (.int .i64 0) w
theorem Holds.mp {w0 w : World} {F : List Nat} {m r : List HP} {b : Nat} {ks : List (List UInt8 × Int)} (hh : Holds w0 F m w) (hp : Pick m (mp b ks) r) : w.heap[b]? = some (.map (mpE ks) ks.length) := by
  obtain ⟨fp, h⟩ := hh.pick hp
  exact h.2
section
variable {P : Program} {K : Cx} {ρ : Env} {m r : List HP} {dst : Option Nat} {ty t t' : TypeId} {pos : String} {aft : Array Edge} {g : Option (Nat × Bool)} {v : Value} {x y z : Operand} {ops : Array Oper} {Q : Exit → Act → World → Prop} {rest : List Oper} {d : Nat}
theorem WL_makeMap (hg : guardB ops g ρ = some true) (hn : (guardN K.N ops g && Nat.blt d K.N) = true) (k : ∀ b, WL P K ops Q rest ((d, .map (some b)) :: ρ) (mp b [] :: m)) :
    WL P K ops Q (⟨some d, .makeMap t none, ty, pos, aft, g⟩ :: rest) ρ m := by
  refine WL_step hg hn fun a w hf hm => ?_
  refine ⟨_, _, w.alloc (.map #[] 0), ?_, ?_, k w.heap.size⟩
  · simp [execOp, run_makeMap_plain, Result.andThen]
  · refine Holds.add (m1 := [mp w.heap.size []]) hm ⟨Keep.ofBelow ((Below.refl _ _).alloc (Nat.le_refl _) _), [w.heap.size], ⟨[w.heap.size], [], rfl, ⟨rfl, ?_⟩, rfl, by simp⟩, fun i hi h => ?_⟩
    · show (w.heap.push _)[w.heap.size]? = _
      simp [mpE]
    · have : i = w.heap.size := by simpa using hi
      omega
theorem y_lookup [S : MapT P t] {b : Nat} {ks : List (List UInt8 × Int)} {l : List UInt8} (hx : opv ρ x = some (.map (some b))) (hy : opv ρ y = some (.string ⟨l.toArray⟩)) (hp : Pick m (mp b ks) r) :
    Yi P K ρ m ⟨dst, .lookup t x y true, ty, pos, aft, g⟩ (.tuple #[.int .i64 (getK ks l), .bool (hasK ks l)]) := ⟨fun a w hf hw => by
  obtain ⟨kt, et, h1, h2, h3⟩ := S.ok
  have hb := hw.mp hp
  have hc : (Instr.checkKey (mpE ks).isEmpty 10000 kt (.string ⟨l.toArray⟩)).run P w = .ok () w := MapKept.run_checkKey (k := .string _) h2 (by simp [MapKept.IsKey]) _ 9999
  have hf' := MapKept.run_findKey (w := w) h2 (findNow_mp l ks 0 0)
  have e : (mpE ks).toList = (ks.zipIdx 0).map mpEnt := by unfold mpE; simp
  rw [← e] at hf'
  simp only [execOp, hf.eval hx, hf.eval hy]
  cases hk : findK l ks 0 with
  | none =>
    rw [hk] at hf'
    simp only [Option.map_none] at hf'
    simp [Instr.lookup, run_underlying h1, MapKept.run_getObj_map hb, hc, hf', h3, Result.andThen, getK, hasK, hk]
  | some q =>
    rw [hk] at hf'
    simp only [Option.map_some] at hf'
    simp [Instr.lookup, run_underlying h1, MapKept.run_getObj_map hb, hc, hf', Result.andThen, getK, hasK, hk]⟩
theorem WL_mapNew [S : MapT P t] {b : Nat} {ks : List (List UInt8 × Int)} {l : List UInt8} {i : Int} (hx : opv ρ x = some (.map (some b))) (hy : opv ρ y = some (.string ⟨l.toArray⟩)) (hz : opv ρ z = some (.int .i64 i)) (hp : Pick m (mp b ks) r) (hno : hasK ks l = false)
    (hg : guardB ops g ρ = some true) (hn : guardN K.N ops g = true) (k : WL P K ops Q rest ρ (mp b (ks ++ [(l, i)]) :: r)) :
    WL P K ops Q (⟨none, .mapUpdate t x y z, ty, pos, aft, g⟩ :: rest) ρ m := by
  refine WL_stepU hg hn fun a w hf hm => ?_
  obtain ⟨kt, et, h1, h2, h3⟩ := S.ok
  have hb := hm.mp hp
  have hc : (Instr.checkKey false 10000 kt (.string ⟨l.toArray⟩)).run P w = .ok () w := MapKept.run_checkKey (k := .string _) h2 (by simp [MapKept.IsKey]) _ 9999
  have hf' := MapKept.run_findKey (w := w) h2 (findNow_mp l ks 0 0)
  have e : (mpE ks).toList = (ks.zipIdx 0).map mpEnt := by unfold mpE; simp
  have hk : findK l ks 0 = none := by
    unfold hasK at hno
    cases h : findK l ks 0 with
    | none => rfl
    | some q => rw [h] at hno; cases hno
  rw [← e, hk] at hf'
  simp only [Option.map_none] at hf'
  refine ⟨_, { w with heap := w.heap.setIfInBounds b (.map (mpE (ks ++ [(l, i)])) (ks ++ [(l, i)]).length) }, ?_, hm.turn (m1 := [mp b (ks ++ [(l, i)])]) hp fun f1 hf1 => ?_, k⟩
  · simp only [execOp, hf.eval hx, hf.eval hy, hf.eval hz]
    simp [Instr.mapUpdate, run_underlying h1, MapKept.run_getObj_map hb, hc, hf', MapKept.run_setObj_map _ hb, Result.andThen, mpE_push, mpEnt]
  · obtain ⟨rfl, _⟩ := hf1
    have hs := MapKept.heap_set (o' := .map (mpE (ks ++ [(l, i)])) (ks ++ [(l, i)]).length) hb
    exact ⟨⟨rfl, rfl, rfl, by simp, fun j _ hj => hs.2 j (by simpa using hj)⟩, [b], ⟨[b], [], rfl, ⟨rfl, hs.1⟩, rfl, by simp⟩, fun _ hi _ => hi⟩
end
end Go.Proofs.YtdnkapfcnapadaaGreatDoor
