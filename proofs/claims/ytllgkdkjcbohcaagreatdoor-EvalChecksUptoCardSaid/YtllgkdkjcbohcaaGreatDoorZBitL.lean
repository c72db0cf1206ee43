/-
  What an expression's value is, told plainly, of what the functions tell: with so much fuel. Of no program.
  The logic of walks: bits of unsigned numbers; shifts. Of no program.
  The logic of walks: a map from strings to ints that is the call's own. Of no program.
-/
import Derived.Test.YtllgkdkjcbohcaaGreatDoorZArrL
import Derived.Test.YtllgkdkjcbohcaaGreatDoorZTreeEx
import Derived.Test.YtllgkdkjcbohcaaGreatDoorZOps
import Derived.Test.YtllgkdkjcbohcaaGreatDoorZRd
import Derived.MapKept
import Derived.WideMake
namespace Go.Proofs.YtllgkdkjcbohcaaGreatDoor
/-- what the functions of arrays tell -/
structure Prims where
  one : Int → Int → Int → Arr → Int × Arr
  two : Int → Int → Int → Arr → Arr → Int × Arr
  pick : Arr → List Arr → Int × Arr
/-- an error, or a value and the fuel that is left -/
inductive Res where
  | err (c : Int)
  | ok (v : Arr) (left : Int)
def Res.bind (r : Res) (k : Arr → Int → Res) : Res := match r with
  | .err c => .err c
  | .ok v f => k v f
def stepR (f : Int) (k : Int → Res) : Res := if f ≤ 0 then .err 8 else k (f - 1)
def mustR (r : Int × Arr) (f : Int) : Res := if r.1 ≠ 0 then .err r.1 else .ok r.2 f
def numsA (l : List Int) : Arr := if l.length = 1 then ⟨false, [], l⟩ else ⟨false, [(l.length : Int)], l⟩
/-- the characters of a text -/
def charsF : Nat → List UInt8 → List Int
  | 0, _ => []
  | _, [] => []
  | n + 1, l@(_ :: _) => ((Lib.decodeL l).1 : Int) :: charsF n (l.drop (Lib.decodeL l).2)
def charsL (l : List UInt8) : List Int := charsF l.length l
def textA (l : List UInt8) : Arr := if (charsL l).length = 1 then ⟨true, [], charsL l⟩ else ⟨true, [((charsL l).length : Int)], charsL l⟩
abbrev Names := List UInt8 → Option Arr
def leafR (env : Names) (al : Option Arr) (om : Arr) (n : Nod) (f : Int) : Res :=
  stepR f fun f => if n.op = 1 then .ok (numsA n.nums) f else if n.op = 2 then .ok (textA n.text) f
    else if n.op = 4 then (match al with | none => .err 2 | some a => .ok a f) else if n.op = 5 then .ok om f
    else if n.op = 3 then (match env n.text with | none => .err 2 | some v => .ok v f) else .err 9
abbrev RunT := Exs → Option Arr → Arr → Int → Res
mutual
/-- the value of an expression, within the function fn of alpha and omega -/
def evX (P : Prims) (env : Names) (run : RunT) (fn : Exs) (al : Option Arr) (om : Arr) : Ex → Int → Res
  | .leaf n, f => leafR env al om n f
  | .one n b r, f => (evX P env run fn al om r f).bind fun o f => stepR f fun f =>
      if n.aop = 6 then run b none o f else if n.aop = 7 then run fn none o f else mustR (P.one n.aop n.af n.ag o) f
  | .two n l b r, f => (evX P env run fn al om r f).bind fun o f => (evX P env run fn al om l f).bind fun a f => stepR f fun f =>
      if n.aop = 6 then run b (some a) o f else if n.aop = 7 then run fn (some a) o f else mustR (P.two n.aop n.af n.ag a o) f
  | .pick _ o b, f => evBy P env run fn al om b f (fun vs f => (evX P env run fn al om o f).bind fun a f => stepR f fun f => mustR (P.pick a vs) f)
/-- the values of parts, from the last to the first -/
def evBy (P : Prims) (env : Names) (run : RunT) (fn : Exs) (al : Option Arr) (om : Arr) : Exs → Int → (List Arr → Int → Res) → Res
  | .nil, f, k => k [] f
  | .cons e r, f, k => evBy P env run fn al om r f fun vs f => (evX P env run fn al om e f).bind fun v f => k (v :: vs) f
end
/-- a condition's value: may it be one, and is it 1? -/
def condR (v : Arr) (no : Res) (yes : Res) : Res :=
  if v.char = true ∨ v.shape ≠ [] ∨ (v.data.getD 0 0 ≠ 0 ∧ v.data.getD 0 0 ≠ 1) then .err 6 else if v.data.getD 0 0 = 1 then yes else no
/-- conditions with what is behind them, then the last expression -/
def runL (ev : Ex → Int → Res) : Exs → Int → Res
  | .nil, _ => .err 9
  | .cons e .nil, f => (ev e f).bind fun v f => stepR f (.ok v)
  | .cons c (.cons e r), f => (ev c f).bind fun v f => stepR f fun f => condR v (runL ev r f) ((ev e f).bind fun v f => stepR f (.ok v))
/-- so many calls may go on -/
def runD (P : Prims) (env : Names) : Nat → RunT
  | 0, _, _, _, _ => .err 8
  | d + 1, b, al, om, f => runL (evX P env (runD P env d) b al om) b f
def zeroAr : Arr := ⟨false, [], []⟩
/-- the value of a line -/
def valueR (P : Prims) (env : Names) (e : Ex) (f : Int) : Res := (evX P env (runD P env 50) .nil none zeroAr e f).bind fun v f => stepR f (.ok v)
/-- what has no axes has a cell -/
def One1 (a : Arr) : Prop := a.shape = [] → a.data ≠ []
/-! ## more fuel -/
/-- with what it takes, and with more, it tells the same; with less it has too little -/
def Fueled (g : Int → Res) : Prop := ∀ f v l, g f = .ok v l → 0 ≤ l ∧ l ≤ f ∧ (∀ f', f - l ≤ f' → g f' = .ok v (f' - (f - l))) ∧ ∀ f', f' < f - l → g f' = .err 8
theorem Fueled.err (c : Int) : Fueled fun _ => .err c := fun _ _ _ h => by cases h
/-- as Fueled, where there is no less than none -/
def Fuel0 (g : Int → Res) : Prop := ∀ f v l, 0 ≤ f → g f = .ok v l → 0 ≤ l ∧ l ≤ f ∧ (∀ f', f - l ≤ f' → g f' = .ok v (f' - (f - l))) ∧ ∀ f', 0 ≤ f' → f' < f - l → g f' = .err 8
theorem Fuel0.err (c : Int) : Fuel0 fun _ => .err c := fun _ _ _ _ h => by cases h
theorem Fuel0.ok (v : Arr) : Fuel0 fun f => .ok v f := fun f u l h0 h => by
  simp only [Res.ok.injEq] at h
  obtain ⟨rfl, rfl⟩ := h
  exact ⟨h0, Int.le_refl _, fun f' _ => by simp, fun f' h1 h2 => by omega⟩
theorem Fuel0.must (r : Int × Arr) : Fuel0 fun f => mustR r f := by
  unfold mustR
  split
  · exact Fuel0.err _
  · exact Fuel0.ok _
theorem Fuel0.step {g : Int → Res} (h : Fuel0 g) : Fueled fun f => stepR f g := fun f v l e => by
  change stepR f g = .ok v l at e
  unfold stepR at e
  split at e
  · cases e
  rename_i hf
  obtain ⟨h1, h2, h3, h4⟩ := h (f - 1) v l (by omega) e
  refine ⟨h1, by omega, fun f' h' => ?_, fun f' h' => ?_⟩
  · show stepR f' g = _
    rw [stepR, if_neg (by omega), h3 (f' - 1) (by omega)]
    congr 1
    omega
  · show stepR f' g = _
    unfold stepR
    split
    · rfl
    · exact h4 (f' - 1) (by omega) (by omega)
theorem Fueled.bind {g : Int → Res} {k : Arr → Int → Res} (h : Fueled g) (hk : ∀ v, Fuel0 (k v)) : Fueled fun f => (g f).bind (k := k) := fun f v l e => by
  cases hg : g f with
  | err c => simp only [hg, Res.bind] at e; cases e
  | ok u m =>
    simp only [hg, Res.bind] at e
    obtain ⟨h1, h2, h3, h4⟩ := h f u m hg
    obtain ⟨k1, k2, k3, k4⟩ := hk u m v l h1 e
    refine ⟨k1, by omega, fun f' h' => ?_, fun f' h' => ?_⟩
    · simp only [h3 f' (by omega), Res.bind]
      rw [k3 _ (by omega)]
      congr 1
      omega
    · by_cases h5 : f' < f - m
      · simp only [h4 f' h5, Res.bind]
      · simp only [h3 f' (by omega), Res.bind]
        exact k4 _ (by omega) (by omega)
theorem Fuel0.bind {g : Int → Res} {k : Arr → Int → Res} (h : Fuel0 g) (hk : ∀ v, Fuel0 (k v)) : Fuel0 fun f => (g f).bind (k := k) := fun f v l h0 e => by
  cases hg : g f with
  | err c => simp only [hg, Res.bind] at e; cases e
  | ok u m =>
    simp only [hg, Res.bind] at e
    obtain ⟨h1, h2, h3, h4⟩ := h f u m h0 hg
    obtain ⟨k1, k2, k3, k4⟩ := hk u m v l h1 e
    refine ⟨k1, by omega, fun f' h' => ?_, fun f' h0' h' => ?_⟩
    · simp only [h3 f' (by omega), Res.bind]
      rw [k3 _ (by omega)]
      congr 1
      omega
    · by_cases h5 : f' < f - m
      · simp only [h4 f' h0' h5, Res.bind]
      · simp only [h3 f' (by omega), Res.bind]
        exact k4 _ (by omega) (by omega)
section
variable {P : Prims} {env : Names} {run : RunT} {fn : Exs} {al : Option Arr} {om : Arr}
theorem Fuel0.ite {p : Prop} [Decidable p] {g h : Int → Res} (hg : Fuel0 g) (hh : Fuel0 h) : Fuel0 fun f => if p then g f else h f := by
  by_cases hp : p
  · simp only [hp, if_true]; exact hg
  · simp only [hp, if_false]; exact hh
end
end Go.Proofs.YtllgkdkjcbohcaaGreatDoor
namespace Go.Proofs.YtllgkdkjcbohcaaGreatDoor
open Go.RowKit
end Go.Proofs.YtllgkdkjcbohcaaGreatDoor
namespace Go.Proofs.YtllgkdkjcbohcaaGreatDoor
open Go.RowKit
def mpEnt (q : (List UInt8 × Int) × Nat) : MapEntry := { key := .string ⟨q.1.1.toArray⟩, val := .int .i64 q.1.2, born := q.2 }
def mpE (ks : List (List UInt8 × Int)) : Array MapEntry := (ks.zipIdx.map mpEnt).toArray
/-- block b: the map with these names, in the order in which they came -/
def mp (b : Nat) (ks : List (List UInt8 × Int)) : HP where
  p w fp := fp = [b] ∧ w.heap[b]? = some (.map (mpE ks) ks.length)
  st w w' fp h := by rintro ⟨rfl, hb⟩; exact ⟨rfl, (h b (by simp)).trans hb⟩
  lt w fp := by
    rintro ⟨rfl, hb⟩ i hi
    have : i = b := by simpa using hi
    subst this
    exact (Array.getElem?_eq_some_iff.1 hb).1
/-- where a name stands, and what it has -/
def findK (l : List UInt8) : List (List UInt8 × Int) → Nat → Option (Nat × Int)
  | [], _ => none
  | k :: r, i => if l = k.1 then some (i, k.2) else findK l r (i + 1)
def getK (ks : List (List UInt8 × Int)) (l : List UInt8) : Int := ((findK l ks 0).map Prod.snd).getD 0
def hasK (ks : List (List UInt8 × Int)) (l : List UInt8) : Bool := (findK l ks 0).isSome
theorem findNow_mp (l : List UInt8) : ∀ (ks : List (List UInt8 × Int)) (j i : Nat), Instr.findNow .string (.string ⟨l.toArray⟩) ((ks.zipIdx j).map mpEnt) i = some ((findK l ks i).map fun q => (q.1, .int .i64 q.2))
  | [], _, _ => rfl
  | k :: r, j, i => by
    rw [List.zipIdx_cons, List.map_cons, Instr.findNow, findK]
    have h : Instr.sameNow .string (.string ⟨l.toArray⟩) (mpEnt (k, j)).key = some (decide (l = k.1)) := by
      show some ((⟨l.toArray⟩ : ByteArray) == ⟨k.1.toArray⟩) = _
      congr 1
      show (l.toArray == k.1.toArray) = _
      simp [lbeq]
    rw [h]
    by_cases e : l = k.1
    · rw [decide_eq_true e, if_pos e]; rfl
    · rw [decide_eq_false e, if_neg e]
      exact findNow_mp l r (j + 1) (i + 1)
theorem mpE_push (ks : List (List UInt8 × Int)) (k : List UInt8 × Int) : mpE (ks ++ [k]) = (mpE ks).push (mpEnt (k, ks.length)) := by
  unfold mpE
  rw [List.zipIdx_append, List.map_append]
  simp
theorem hasK_iff (ks : List (List UInt8 × Int)) (l : List UInt8) : hasK ks l = true ↔ l ∈ ks.map Prod.fst := by
  unfold hasK
  have key : ∀ (ks : List (List UInt8 × Int)) (i : Nat), (findK l ks i).isSome = true ↔ l ∈ ks.map Prod.fst := by
    intro ks
    induction ks with
    | nil => intro i; simp [findK]
    | cons k r ih =>
      intro i
      rw [findK]
      by_cases e : l = k.1
      · rw [if_pos e]; simp [e]
      · rw [if_neg e, ih (i + 1)]; simp [e]
  exact key ks 0
class MapT (P : Program) (t : TypeId) : Prop where
  ok : ∃ kt et, P.underlying t = some (.map kt et) ∧ P.underlying kt = some .string ∧ ∀ w, (zeroValue et).run P w = .ok (.int .i64 0) w
theorem Holds.mp {w0 w : World} {F : List Nat} {m r : List HP} {b : Nat} {ks : List (List UInt8 × Int)} (hh : Holds w0 F m w) (hp : Pick m (mp b ks) r) : w.heap[b]? = some (.map (mpE ks) ks.length) := by
  obtain ⟨fp, h⟩ := hh.pick hp
  exact h.2
section
variable {P : Program} {K : Cx} {ρ : Env} {m r : List HP} {dst : Option Nat} {ty t t' : TypeId} {pos : String} {aft : Array Edge} {g : Option (Nat × Bool)} {v : Value} {x y z : Operand} {ops : Array Oper} {Q : Exit → Act → World → Prop} {rest : List Oper} {d : Nat}
theorem WL_makeMap (hg : guardB ops g ρ = some true) (hn : (guardN K.N ops g && Nat.blt d K.N) = true) (k : ∀ b, WL P K ops Q rest ((d, .map (some b)) :: ρ) (mp b [] :: m)) :
    WL P K ops Q (⟨some d, .makeMap t none, ty, pos, aft, g⟩ :: rest) ρ m := by
  refine WL_step hg hn fun a w hf hm => ?_
  refine ⟨_, _, w.alloc (.map #[] 0), ?_, ?_, k w.heap.size⟩
  · simp [execOp, run_makeMap_plain, Result.andThen]
  · refine Holds.add (m1 := [mp w.heap.size []]) hm ⟨Keep.ofBelow ((Below.refl _ _).alloc (Nat.le_refl _) _), [w.heap.size], ⟨[w.heap.size], [], rfl, ⟨rfl, ?_⟩, rfl, by simp⟩, fun i hi h => ?_⟩
    · show (w.heap.push _)[w.heap.size]? = _
      simp [mpE]
    · have : i = w.heap.size := by simpa using hi
      omega
theorem y_lookup [S : MapT P t] {b : Nat} {ks : List (List UInt8 × Int)} {l : List UInt8} (hx : opv ρ x = some (.map (some b))) (hy : opv ρ y = some (.string ⟨l.toArray⟩)) (hp : Pick m (mp b ks) r) :
    Yi P K ρ m ⟨dst, .lookup t x y true, ty, pos, aft, g⟩ (.tuple #[.int .i64 (getK ks l), .bool (hasK ks l)]) := ⟨fun a w hf hw => by
  obtain ⟨kt, et, h1, h2, h3⟩ := S.ok
  have hb := hw.mp hp
  have hc : (Instr.checkKey (mpE ks).isEmpty 10000 kt (.string ⟨l.toArray⟩)).run P w = .ok () w := MapKept.run_checkKey (k := .string _) h2 (by simp [MapKept.IsKey]) _ 9999
  have hf' := MapKept.run_findKey (w := w) h2 (findNow_mp l ks 0 0)
  have e : (mpE ks).toList = (ks.zipIdx 0).map mpEnt := by unfold mpE; simp
  rw [← e] at hf'
  simp only [execOp, hf.eval hx, hf.eval hy]
  cases hk : findK l ks 0 with
  | none =>
    rw [hk] at hf'
    simp only [Option.map_none] at hf'
    simp [Instr.lookup, run_underlying h1, MapKept.run_getObj_map hb, hc, hf', h3, Result.andThen, getK, hasK, hk]
  | some q =>
    rw [hk] at hf'
    simp only [Option.map_some] at hf'
    simp [Instr.lookup, run_underlying h1, MapKept.run_getObj_map hb, hc, hf', Result.andThen, getK, hasK, hk]⟩
theorem WL_mapNew [S : MapT P t] {b : Nat} {ks : List (List UInt8 × Int)} {l : List UInt8} {i : Int} (hx : opv ρ x = some (.map (some b))) (hy : opv ρ y = some (.string ⟨l.toArray⟩)) (hz : opv ρ z = some (.int .i64 i)) (hp : Pick m (mp b ks) r) (hno : hasK ks l = false)
    (hg : guardB ops g ρ = some true) (hn : guardN K.N ops g = true) (k : WL P K ops Q rest ρ (mp b (ks ++ [(l, i)]) :: r)) :
    WL P K ops Q (⟨none, .mapUpdate t x y z, ty, pos, aft, g⟩ :: rest) ρ m := by
  refine WL_stepU hg hn fun a w hf hm => ?_
  obtain ⟨kt, et, h1, h2, h3⟩ := S.ok
  have hb := hm.mp hp
  have hc : (Instr.checkKey false 10000 kt (.string ⟨l.toArray⟩)).run P w = .ok () w := MapKept.run_checkKey (k := .string _) h2 (by simp [MapKept.IsKey]) _ 9999
  have hf' := MapKept.run_findKey (w := w) h2 (findNow_mp l ks 0 0)
  have e : (mpE ks).toList = (ks.zipIdx 0).map mpEnt := by unfold mpE; simp
  have hk : findK l ks 0 = none := by
    unfold hasK at hno
    cases h : findK l ks 0 with
    | none => rfl
    | some q => rw [h] at hno; cases hno
  rw [← e, hk] at hf'
  simp only [Option.map_none] at hf'
  refine ⟨_, { w with heap := w.heap.setIfInBounds b (.map (mpE (ks ++ [(l, i)])) (ks ++ [(l, i)]).length) }, ?_, hm.turn (m1 := [mp b (ks ++ [(l, i)])]) hp fun f1 hf1 => ?_, k⟩
  · simp only [execOp, hf.eval hx, hf.eval hy, hf.eval hz]
    simp [Instr.mapUpdate, run_underlying h1, MapKept.run_getObj_map hb, hc, hf', MapKept.run_setObj_map _ hb, Result.andThen, mpE_push, mpEnt]
  · obtain ⟨rfl, _⟩ := hf1
    have hs := MapKept.heap_set (o' := .map (mpE (ks ++ [(l, i)])) (ks ++ [(l, i)]).length) hb
    exact ⟨⟨rfl, rfl, rfl, by simp, fun j _ hj => hs.2 j (by simpa using hj)⟩, [b], ⟨[b], [], rfl, ⟨rfl, hs.1⟩, rfl, by simp⟩, fun _ hi _ => hi⟩
end
end Go.Proofs.YtllgkdkjcbohcaaGreatDoor
