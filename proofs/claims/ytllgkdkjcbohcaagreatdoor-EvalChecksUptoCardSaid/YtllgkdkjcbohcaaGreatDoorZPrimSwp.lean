/-
  The logic of walks: parts of rows; a part of a row behind a slice of the call's own; maps of ints to ints of the call's own, which may then be read by what is called. Of no program.
  Plain: what the functions of the package seek tell.
  The package arr: arr.Match.
  Plain: products of axes; places of cells; the indices of an array one by one.
  The package cut: a part of an array.
  The logic of walks: so many of a row behind a slice of the call's own, as a part of a drawn region. Of no program.
  Plain: what the functions of the packages turn and cut tell, line by line.
  Plain: what cut.Join tells.
  The package radix: radix.Digits. The package prim: a number of digits.
  The package prim: the functions of any two arrays, but for the comma.
  The package prim: prim.Two of a plain function, and swapped; prim.One swapped.
  The package prim: prim.Two swapped.
-/
import Derived.Test.YtllgkdkjcbohcaaGreatDoorZGo
import Derived.Test.YtllgkdkjcbohcaaGreatDoorZPar
import Derived.Test.YtllgkdkjcbohcaaGreatDoorZBitL
import Derived.Test.YtllgkdkjcbohcaaGreatDoorZTwoEx
import Derived.Test.YtllgkdkjcbohcaaGreatDoorZArrW
import Derived.Test.YtllgkdkjcbohcaaGreatDoorZStpL
import Derived.Test.YtllgkdkjcbohcaaGreatDoorZKnown
namespace Go.Proofs.YtllgkdkjcbohcaaGreatDoor
open Go.RowKit
/-- where a slice begins from its l-th element on -/
def subP (p : Option Addr) (c sz l : Nat) : Option Addr := if c = l then p else p.map (·.add (l * sz))
theorem Row.sub {α : Type} {enc : α → List Value} {sz : Nat} {G : Rd} {p : Option Addr} {c : Nat} {xs : List α} (h : Row enc sz G p c xs) (l n : Nat) (hl : l + n ≤ xs.length) : Row enc sz G (subP p c sz l) (c - l) ((xs.drop l).take n) := by
  have hc := h.le
  refine ⟨by simp; omega, by have := h.max; omega, fun hn => ?_, fun i x hx j v hv => ?_⟩
  · have h0 : 0 < n := by
      rcases Nat.eq_zero_or_pos n with e | e
      · exact absurd (by rw [e]; simp) hn
      · exact e
    have h1 := h.some_lt (i := l) (by omega)
    unfold subP
    rw [if_neg (by omega)]
    cases p with
    | none => cases h1
    | some _ => rfl
  · rw [List.getElem?_take] at hx
    split at hx
    · rename_i hi
      rw [List.getElem?_drop] at hx
      have h1 := h.some_lt (i := l) (by omega)
      have := h.cell (l + i) x hx j v hv
      rw [← this]
      unfold subP
      rw [if_neg (by omega)]
      cases p with
      | none => cases h1
      | some q =>
        congr 2
        show (q.add (l * sz)).add (i * sz) = q.add ((l + i) * sz)
        rw [Go.Deep.add_add, Nat.add_mul]
    · cases hx
/-! ## maps of ints to ints -/
def mqEnt (q : (Int × Int) × Nat) : MapEntry := { key := .int .i64 q.1.1, val := .int .i64 q.1.2, born := q.2 }
def mqE (ks : List (Int × Int)) : Array MapEntry := (ks.zipIdx.map mqEnt).toArray
/-- the map with these keys, in the order in which they came, lies there -/
def MapAt (w : World) (b : Nat) (ks : List (Int × Int)) : Prop := w.heap[b]? = some (.map (mqE ks) ks.length)
/-- where a key stands, and what it has -/
def findI (l : Int) : List (Int × Int) → Nat → Option (Nat × Int)
  | [], _ => none
  | k :: r, i => if l = k.1 then some (i, k.2) else findI l r (i + 1)
def getI (ks : List (Int × Int)) (l : Int) : Int := ((findI l ks 0).map Prod.snd).getD 0
def hasI (ks : List (Int × Int)) (l : Int) : Bool := (findI l ks 0).isSome
theorem MapAt.keep {w w' : World} {b : Nat} {ks : List (Int × Int)} (h : MapAt w b ks) (hk : Keep w [] w') : MapAt w' b ks := by
  have hlt : b < w.heap.size := (Array.getElem?_eq_some_iff.1 h).1
  unfold MapAt at *
  rw [← h]
  exact hk.block b hlt (by simp)
end Go.Proofs.YtllgkdkjcbohcaaGreatDoor
namespace Go.Proofs.YtllgkdkjcbohcaaGreatDoor
open Go.RowKit
/-- where each cell is first -/
def firstsL (xs : List Int) : Nat → List (Int × Int)
  | 0 => []
  | i + 1 => if hasI (firstsL xs i) (xs.getD i 0) = true then firstsL xs i else firstsL xs i ++ [(xs.getD i 0, (i : Int))]
def fsts (xs : List Int) : List (Int × Int) := firstsL xs xs.length
/-- the cells that are asked for -/
def chosenL (p : Nat → Int → Bool) (xs : List Int) : Nat → List Int
  | 0 => []
  | i + 1 => if p i (xs.getD i 0) = true then chosenL p xs i ++ [xs.getD i 0] else chosenL p xs i
def chosenA (p : Nat → Int → Bool) (a : Arr) : Arr := ⟨a.char, [((chosenL p a.data a.data.length).length : Int)], chosenL p a.data a.data.length⟩
/-- does it have that cell? -/
def hasA (b : Arr) (ch : Bool) (c : Int) : Bool := hasI (fsts b.data) c && decide (ch = b.char)
def indexC (a b : Arr) (c : Int) : Int := if hasA a b.char c = true then getI (fsts a.data) c else (a.data.length : Int)
def indexF (a b : Arr) : Int × Arr := if a.shape.length ≠ 1 then (3, zeroA) else (0, ⟨false, b.shape, b.data.map (indexC a b)⟩)
def inF (a b : Arr) : Arr := ⟨false, a.shape, a.data.map fun c => if hasA b a.char c = true then 1 else 0⟩
/-- two lists: what is wrong -/
def pairE (a b : Arr) : Int := if a.shape.length ≠ 1 ∨ b.shape.length ≠ 1 then 3 else 0
def withoutF (a b : Arr) : Int × Arr := if pairE a b ≠ 0 then (pairE a b, zeroA) else (0, chosenA (fun _ c => !hasA b a.char c) a)
def meetF (a b : Arr) : Int × Arr := if pairE a b ≠ 0 then (pairE a b, zeroA) else (0, chosenA (fun _ c => hasA b a.char c) a)
def unionF (a b : Arr) : Int × Arr :=
  if pairE a b ≠ 0 then (pairE a b, zeroA) else if a.char ≠ b.char then (6, zeroA)
  else if 4096 < (a.data ++ (withoutF b a).2.data).length then (7, zeroA) else (0, ⟨a.char, [((a.data ++ (withoutF b a).2.data).length : Int)], a.data ++ (withoutF b a).2.data⟩)
end Go.Proofs.YtllgkdkjcbohcaaGreatDoor
namespace Go.Proofs.YtllgkdkjcbohcaaGreatDoor
open Go.RowKit
def matchF (a b : Arr) : Bool × Int := if a.bad ≠ 0 then (false, a.bad) else if b.bad ≠ 0 then (false, b.bad) else (decide (a.char = b.char ∧ a.shape = b.shape ∧ a.data = b.data), 0)
end Go.Proofs.YtllgkdkjcbohcaaGreatDoor
namespace Go.Proofs.YtllgkdkjcbohcaaGreatDoor
open Go.RowKit
/-- product -/
def mulL : List Int → Int
  | [] => 1
  | x :: r => x * mulL r
theorem mul_pos {s : List Int} (h : ∀ x ∈ s, 1 ≤ x) : 1 ≤ mulL s := by
  induction s with
  | nil => exact Int.le_refl _
  | cons x r ih =>
    rw [mulL]
    have h1 := h x (by simp)
    have h2 := ih fun y hy => h y (by simp [hy])
    have := Int.mul_le_mul h1 h2 (by omega) (by omega)
    omega
/-! ## places -/
/-! ## the indices one by one -/
end Go.Proofs.YtllgkdkjcbohcaaGreatDoor
namespace Go.Proofs.YtllgkdkjcbohcaaGreatDoor
open Go.RowKit
theorem map_set (xs : List Int) (k : Nat) (v : Int) : (xs.map (Value.int .i64)).set k (.int .i64 v) = (xs.set k v).map (Value.int .i64) := List.map_set.symm
end Go.Proofs.YtllgkdkjcbohcaaGreatDoor
namespace Go.Proofs.YtllgkdkjcbohcaaGreatDoor
open Go.RowKit
theorem Ent.trans {m m1 m2 : List HP} (h : Ent m m1) (k : Ent m1 m2) : Ent m m2 := fun fp w ho => by
  obtain ⟨f1, h1, s1⟩ := h fp w ho
  obtain ⟨f2, h2, s2⟩ := k f1 w h1
  exact ⟨f2, h2, fun i hi => s1 i (s2 i hi)⟩
end Go.Proofs.YtllgkdkjcbohcaaGreatDoor
namespace Go.Proofs.YtllgkdkjcbohcaaGreatDoor
open Go.RowKit
/-- so many cells from a place on -/
def piece (d : List Int) (at' n : Nat) : List Int := (d.drop at').take n
end Go.Proofs.YtllgkdkjcbohcaaGreatDoor
namespace Go.Proofs.YtllgkdkjcbohcaaGreatDoor
open Go.RowKit
/-- a single value as a list of one -/
def vecA (a : Arr) : Arr := if a.shape.length = 0 then ⟨a.char, [1], a.data⟩ else a
def joinS (k : Nat) (a b : Arr) : List Int := a.shape.set k (a.shape.getD k 0 + b.shape.getD k 0)
def joinD (x y : List Int) (one two t : Nat) : List Int := (List.range t).flatMap fun o => piece x (o * one) one ++ piece y (o * two) two
def joinX (k : Nat) (a b : Arr) (n : Nat) : Bool := (List.range n).any fun j => decide (j ≠ k ∧ a.shape.getD j 0 ≠ b.shape.getD j 0)
def joinF (k : Nat) (a b : Arr) : Int × Arr :=
  if a.shape.length ≠ b.shape.length then (3, zeroA)
  else if joinX k a b a.shape.length = true then (4, zeroA)
  else if a.char ≠ b.char then (6, zeroA)
  else if (countF (joinS k a b)).2 ≠ 0 then ((countF (joinS k a b)).2, zeroA)
  else (0, ⟨a.char, joinS k a b, joinD a.data b.data (mulL (a.shape.drop k)).toNat (mulL (b.shape.drop k)).toNat (if (countF (joinS k a b)).1 = 0 then 0 else (mulL (a.shape.take k)).toNat)⟩)
end Go.Proofs.YtllgkdkjcbohcaaGreatDoor
namespace Go.Proofs.YtllgkdkjcbohcaaGreatDoor
open Go.RowKit
/-! ## prim.valued -/
/-- what is told of the digits' number -/
theorem ResT.num {w w' : World} {G : Rd} {v : Int} {b : Nat} {e2 : TypeId} {r : List HP} (hv : I64 v) (hh : Holds w [] (ro w [] G :: blk b e2 #[.int .i64 v] :: r) w') :
    ResT (0, ⟨false, [], [v]⟩) G w (.returned (.tuple #[.agg #[.bool false, .slice none 0 0, .slice (some ⟨b, 0, none⟩) 1 1], .nilIface])) w' :=
  ResT.own (ch := false) (q := none) (c := 0) (p := some ⟨b, 0, none⟩) (k := 1) (ss := []) (ds := [v]) (e1 := e2) (e2 := e2) (r := []) (hh.ent (Ent.cons .here (Ent.nilown (Ent.blkSlN (n := 1) (sz := 1) (xs := [v].map (Value.int .i64)) .here rfl rfl (by decide) Ent.nil)))) rfl rfl rfl (by simp) (by simpa using hv)
end Go.Proofs.YtllgkdkjcbohcaaGreatDoor
namespace Go.Proofs.YtllgkdkjcbohcaaGreatDoor
open Go.RowKit
def byBothF (f : Int) (a b : Arr) : Int × Arr :=
  if f = 19 then joinF ((vecA a).shape.length - 1) (vecA a) (vecA b) else if f = 24 then indexF a b else if f = 25 then (0, inF a b) else if f = 17 then withoutF a b else if f = 28 then unionF a b
  else if f = 29 then meetF a b else if f = 32 then (0, ⟨false, [], [if (matchF a b).1 = true then 1 else 0]⟩) else eachTwo f a b
set_option maxHeartbeats 16000000 in
set_option maxRecDepth 100000 in
theorem byBoth_each (f : Int) (a b : ArrM) (G : Rd) (w : World) (hS : Rd.le G w.cell?) (ha : ArrG G a) (hb : ArrG G b) (q1 : f ≠ 19) (q2 : f ≠ 24) (q3 : f ≠ 25) (q4 : f ≠ 17) (q5 : f ≠ 28) (q6 : f ≠ 29) (q7 : f ≠ 32) :
    Calls Tryz.prog 90 #[.int .i64 f, arrV a, arrV b] w (ResT (byBothF f a.arr b.arr) G w) := by
  refine enterR (args := [_, _, _]) (m := []) (F := []) hS.sub rfl Tryz.func90 rfl Tryz.ntmps90 (by simp) ?_
  clear hS
  have hF : byBothF f a.arr b.arr = eachTwo f a.arr b.arr := by
    unfold byBothF
    rw [if_neg q1, if_neg q2, if_neg q3, if_neg q4, if_neg q5, if_neg q6, if_neg q7]
  rw [hF]
  clear hF
  ((repeat' (first|refine zza ?_|refine zc9 ?_|refine zzb fun w hw => ?_|refine zzh fun _ => ?_|refine zzi fun _ _ => ?_|refine zu1 ?_|refine zu2 ?_|refine zu3 ?_|refine zu4 fun _ => ?_|refine zzj (fun _ => ?_) fun _ => ?_)); (repeat' (refine CW_seq ?_; (repeat' (first|refine zza ?_|refine zc9 ?_|refine zzb fun w hw => ?_|refine zzh fun _ => ?_|refine zzi fun _ _ => ?_|refine zu1 ?_|refine zu2 ?_|refine zu3 ?_|refine zu4 fun _ => ?_|refine zzj (fun _ => ?_) fun _ => ?_)))))
  rename_i b4 b5 b6
  refine WL_callT (r := [zB b6, boxB b4 a, boxB b5 b]) zent rfl rfl rfl (fun W hW => each_Two f a b G W (fun x u e => (hW x u e).1) ha hb) ?_
  rintro z G2 hz g2
  ((repeat' (first|refine zza ?_|refine zc9 ?_|refine zzb fun w hw => ?_|refine zzh fun _ => ?_|refine zzi fun _ _ => ?_|refine zu1 ?_|refine zu2 ?_|refine zu3 ?_|refine zu4 fun _ => ?_|refine zzj (fun _ => ?_) fun _ => ?_)); (repeat' (refine CW_seq ?_; (repeat' (first|refine zza ?_|refine zc9 ?_|refine zzb fun w hw => ?_|refine zzh fun _ => ?_|refine zzi fun _ _ => ?_|refine zu1 ?_|refine zu2 ?_|refine zu3 ?_|refine zu4 fun _ => ?_|refine zzj (fun _ => ?_) fun _ => ?_)))))
  refine EX_retK2 (b := b6) rfl rfl rfl rfl zpk rfl fun w' hw => ?_
  exact ⟨z, G2, hz, rfl, g2, hw.ent (Ent.cons zpk Ent.nil)⟩
end Go.Proofs.YtllgkdkjcbohcaaGreatDoor
namespace Go.Proofs.YtllgkdkjcbohcaaGreatDoor
open Go.RowKit
abbrev actB (b : Nat) (op f g : Int) : HP := blk b 29 #[.int .i64 op, .int .i64 f, .int .i64 g]
end Go.Proofs.YtllgkdkjcbohcaaGreatDoor
namespace Go.Proofs.YtllgkdkjcbohcaaGreatDoor
open Go.RowKit
section
variable {P : Program} {K : Cx} {ρ : Env} {m m0 r : List HP} {ty t : TypeId} {pos : String} {aft : Array Edge} {g : Option (Nat × Bool)} {x y : Operand} {ops : Array Oper} {rest : List Nat} {L : Act → Cl → Prop}
  {zs : List Value} {k : Nat} {listed : Array Bool} {E : List PanicEntry → World → Prop} {fs : List (Nat × Nat)}
/-- a whole value, stored into a block, in a region walked in a told order -/
theorem WP_storeW {pm : List HP} {b i : Nat} {T : TypeId} {cs : Array Value} [S : StT P t fs zs] {vs : List Value} (hk : ops[k]? = some ⟨none, .store t x y, ty, pos, aft, g⟩) (hso : soleB .any ops listed k = true) (hx : opv ρ x = some (.pointer (some ⟨b, i, none⟩))) (hy : opv ρ y = some (.agg vs.toArray)) (h1 : vs.all Value.oneCell' = true) (hp : Pick m (blk b T cs) r) (hr : Ent (blk b T (setL cs i vs) :: r) (pm ++ m0))
    (hl : Nat.beq vs.length zs.length = true) (hi : Nat.ble (i + vs.length) cs.toList.length = true)
    (hg : guardB ops g ρ = some true) (hn : guardN K.N ops g = true) (k' : WP P K E ops L m0 rest (listed.setIfInBounds k true) ρ (blk b T (setL cs i vs) :: r)) :
    WP P K E ops L m0 (k :: rest) listed ρ m := by
  refine ⟨fun a hf => ?_⟩
  unfold wpHeadP
  rw [hk]
  simp only
  unfold headP
  rw [if_pos (guard_wanted hf hg (guardN_spec hn))]
  have hl := Nat.eq_of_beq_eq_true hl
  have hi := Nat.le_of_ble_eq_true hi
  refine .inr ⟨hso, Unit, fun _ => undef, fun _ => Holds K.w0 K.F (blk b T (setL cs i vs) :: r), fun _ => Holds.closed _ _ _, fun _ W hW => (hW.ent hr).drop, fun w hm => ?_, fun _ => k'.run _ (hf.put_none _)⟩
  obtain ⟨w', h2, h3⟩ := run_cells (P := P) (r := r) (off := i) (T := T) vs 0 cs w (hm.ent (Ent.cons hp Ent.refl)) (by simpa using hi) h1
  have h4 : (execOp a.eval ⟨none, .store t x y, ty, pos, aft, g⟩).run P w = .ok .skip w' := by
    simp only [execOp, hf.eval hx, hf.eval hy]
    simp [Instr.storeAt, Instr.sureAddr, storeVar, S.size w, Value.cells, hl, h2]
  rw [h4]
  exact ⟨rfl, (), h3⟩
end
end Go.Proofs.YtllgkdkjcbohcaaGreatDoor
