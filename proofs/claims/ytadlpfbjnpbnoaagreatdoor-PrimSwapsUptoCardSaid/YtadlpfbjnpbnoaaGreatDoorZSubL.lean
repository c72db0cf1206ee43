/-
  ravelinsame.Told: two errors tell the same.
  ravelinsame.Ints: of two slices that hold the same.
  ravelinsame.Array of two arrays that hold the same.
  The logic of walks: parts of rows; a part of a row behind a slice of the call's own; maps of ints to ints of the call's own, which may then be read by what is called. Of no program.
-/
import Derived.Test.YtadlpfbjnpbnoaaGreatDoorZGo
import Derived.Test.YtadlpfbjnpbnoaaGreatDoorZLaidH
import Derived.Test.YtadlpfbjnpbnoaaGreatDoorZVecE
import Derived.Test.YtadlpfbjnpbnoaaGreatDoorZOpenArr
import Derived.Test.YtadlpfbjnpbnoaaGreatDoorZTokRow
import Derived.Test.YtadlpfbjnpbnoaaGreatDoorZStpL
import Derived.Test.YtadlpfbjnpbnoaaGreatDoorZOps
import Derived.Test.YtadlpfbjnpbnoaaGreatDoorZRd
import Derived.MapKept
import Derived.WideMake
namespace Go.Proofs.YtadlpfbjnpbnoaaGreatDoor
open Go.RowKit
instance fnT_Told : FnT Tryz.prog 59 := ⟨_, _, Tryz.func59, rfl, by decide⟩
set_option maxRecDepth 100000 in
theorem same_Told (e f : Int) (w : World) (hg : Handle w) : Calls Tryz.prog 14 #[errV 28 e, errV 28 f] w fun r w' => r = .returned (.bool (decide (e = f))) ∧ Below w.heap.size w w' := by
  have hT := fun W (h : Handle W) => plain_Told e W h
  have hT2 := fun W (h : Handle W) => plain_Told f W h
  obtain ⟨v, hv⟩ : ∃ v, v = errV 28 e := ⟨_, rfl⟩
  obtain ⟨u, hu⟩ : ∃ u, u = errV 28 f := ⟨_, rfl⟩
  rw [← hv] at hT ⊢
  rw [← hu] at hT2 ⊢
  clear hv hu
  refine enter (args := [_, _]) (m := []) (F := []) Tryz.func14 rfl Tryz.ntmps14 (by simp) rfl ?_
  ((repeat' (first|refine zza ?_|refine zc9 ?_|refine zzb fun w hw => ?_|refine zzh fun _ => ?_|refine zzi fun _ _ => ?_|refine zu1 ?_|refine zu2 ?_|refine zu3 ?_|refine zu4 fun _ => ?_|refine zzj (fun _ => ?_) fun _ => ?_)); (repeat' (refine CW_seq ?_; (repeat' (first|refine zza ?_|refine zc9 ?_|refine zzb fun w hw => ?_|refine zzh fun _ => ?_|refine zzi fun _ _ => ?_|refine zu1 ?_|refine zu2 ?_|refine zu3 ?_|refine zu4 fun _ => ?_|refine zzj (fun _ => ?_) fun _ => ?_)))))
  refine WL_callV rfl rfl rfl (fun W hW => hT W (hg.below hW.below)) ?_
  ((repeat' (first|refine zza ?_|refine zc9 ?_|refine zzb fun w hw => ?_|refine zzh fun _ => ?_|refine zzi fun _ _ => ?_|refine zu1 ?_|refine zu2 ?_|refine zu3 ?_|refine zu4 fun _ => ?_|refine zzj (fun _ => ?_) fun _ => ?_)); (repeat' (refine CW_seq ?_; (repeat' (first|refine zza ?_|refine zc9 ?_|refine zzb fun w hw => ?_|refine zzh fun _ => ?_|refine zzi fun _ _ => ?_|refine zu1 ?_|refine zu2 ?_|refine zu3 ?_|refine zu4 fun _ => ?_|refine zzj (fun _ => ?_) fun _ => ?_)))))
  refine WL_callV rfl rfl rfl (fun W hW => hT2 W (hg.below hW.below)) ?_
  ((repeat' (first|refine zza ?_|refine zc9 ?_|refine zzb fun w hw => ?_|refine zzh fun _ => ?_|refine zzi fun _ _ => ?_|refine zu1 ?_|refine zu2 ?_|refine zu3 ?_|refine zu4 fun _ => ?_|refine zzj (fun _ => ?_) fun _ => ?_)); (repeat' (refine CW_seq ?_; (repeat' (first|refine zza ?_|refine zc9 ?_|refine zzb fun w hw => ?_|refine zzh fun _ => ?_|refine zzi fun _ _ => ?_|refine zu1 ?_|refine zu2 ?_|refine zu3 ?_|refine zu4 fun _ => ?_|refine zzj (fun _ => ?_) fun _ => ?_)))))
  exact ⟨rfl, hw.below⟩
end Go.Proofs.YtadlpfbjnpbnoaaGreatDoor
namespace Go.Proofs.YtadlpfbjnpbnoaaGreatDoor
open Go.RowKit
set_option maxRecDepth 100000 in
theorem same_Ints (p q : Option Addr) (c d n : Nat) (xs : List Int) (hn : xs.length = n) (w : World) (hx : Row encI 1 w.cell? p c xs) (hy : Row encI 1 w.cell? q d xs) :
    Calls Tryz.prog 12 #[.slice p n c, .slice q n d] w fun e w' => e = .returned (.bool true) ∧ Below w.heap.size w w' := by
  subst hn
  have hlen := hx.len
  refine enterR (G := w.cell?) (args := [_, _]) (m := []) (Rd.sub_cell w) rfl Tryz.func12 rfl Tryz.ntmps12 (by simp) ?_
  (repeat' (first|refine zza ?_|refine zc9 ?_|refine zzb fun w hw => ?_|refine zzh fun _ => ?_|refine zzi fun _ _ => ?_|refine zzj (fun _ => ?_) fun _ => ?_))
  refine CW_loopK [(0,_),(1,_)] zcov (fun x : Nat => [(5, .int .i64 x)]) (fun _ => [ro w [] w.cell?]) (fun x => x ≤ xs.length) (fun x => xs.length - x) 0 (Nat.zero_le _) zcov zent ?_
  rintro k hk
  by_cases hlt : k < xs.length
  · obtain ⟨u, hu⟩ : ∃ u, xs[k]? = some u := ⟨xs[k], by simp [hlt]⟩
    have hnn : ¬ u ≠ u := fun h => h rfl
    (repeat' (first|refine zza ?_|refine zc9 ?_|refine zzb fun w hw => ?_|refine zzh fun _ => ?_|refine zzi fun _ _ => ?_|refine zzj (fun _ => ?_) fun _ => ?_))
    apply WQ_op rfl rfl (y_load rfl (rd_row (enc := encI) hx zpk hu))
    (repeat' (first|refine zza ?_|refine zc9 ?_|refine zzb fun w hw => ?_|refine zzh fun _ => ?_|refine zzi fun _ _ => ?_|refine zzj (fun _ => ?_) fun _ => ?_))
    apply WQ_op rfl rfl (y_load rfl (rd_row (enc := encI) hy zpk hu))
    (repeat' (first|refine zza ?_|refine zc9 ?_|refine zzb fun w hw => ?_|refine zzh fun _ => ?_|refine zzi fun _ _ => ?_|refine zzj (fun _ => ?_) fun _ => ?_))
    exact EX_loop' (k + 1) ⟨zcov, zent, by omega, by omega⟩
  · have hkl : k = xs.length := by omega
    subst hkl
    (repeat' (first|refine zza ?_|refine zc9 ?_|refine zzb fun w hw => ?_|refine zzh fun _ => ?_|refine zzi fun _ _ => ?_|refine zzj (fun _ => ?_) fun _ => ?_))
    exact ⟨rfl, hw.below⟩
end Go.Proofs.YtadlpfbjnpbnoaaGreatDoor
namespace Go.Proofs.YtadlpfbjnpbnoaaGreatDoor
open Go.RowKit
set_option maxRecDepth 100000 in
theorem same_Array (ch : Bool) (s d s' d' : SlV Int) (w : World) (hs : Row encI 1 w.cell? s.p s.c s.xs) (hd : Row encI 1 w.cell? d.p d.c d.xs) (hs' : Row encI 1 w.cell? s'.p s'.c s'.xs) (hd' : Row encI 1 w.cell? d'.p d'.c d'.xs) (e1 : s'.xs = s.xs) (e2 : d'.xs = d.xs) :
    Calls Tryz.prog 15 #[.agg #[.bool ch, .slice s.p s.xs.length s.c, .slice d.p d.xs.length d.c], .agg #[.bool ch, .slice s'.p s'.xs.length s'.c, .slice d'.p d'.xs.length d'.c]] w fun e w' => e = .returned (.bool true) ∧ Below w.heap.size w w' := by
  rw [e1] at hs'
  rw [e2] at hd'
  rw [e1, e2]
  have hnn : ¬ ch ≠ ch := fun h => h rfl
  refine enterR (G := w.cell?) (args := [_, _]) (m := []) (Rd.sub_cell w) rfl Tryz.func15 rfl Tryz.ntmps15 (by simp) ?_
  (repeat' (first|refine zza ?_|refine zc9 ?_|refine zzb fun w hw => ?_|refine zzh fun _ => ?_|refine zzi fun _ _ => ?_|refine zzj (fun _ => ?_) fun _ => ?_))
  (apply WL_callV; rfl; rfl; rfl; (intro W hW; exact same_Ints s.p s'.p s.c s'.c s.xs.length s.xs rfl W (hs.mono (hW.le (.there (.there .here)))) (hs'.mono (hW.le (.there (.there .here))))))
  (repeat' (first|refine zza ?_|refine zc9 ?_|refine zzb fun w hw => ?_|refine zzh fun _ => ?_|refine zzi fun _ _ => ?_|refine zzj (fun _ => ?_) fun _ => ?_))
  (apply WL_callV; rfl; rfl; rfl; (intro W hW; exact same_Ints d.p d'.p d.c d'.c d.xs.length d.xs rfl W (hd.mono (hW.le (.there (.there .here)))) (hd'.mono (hW.le (.there (.there .here))))))
  (repeat' (first|refine zza ?_|refine zc9 ?_|refine zzb fun w hw => ?_|refine zzh fun _ => ?_|refine zzi fun _ _ => ?_|refine zzj (fun _ => ?_) fun _ => ?_))
  exact ⟨rfl, hw.below⟩
end Go.Proofs.YtadlpfbjnpbnoaaGreatDoor
namespace Go.Proofs.YtadlpfbjnpbnoaaGreatDoor
open Go.RowKit
/-- where a slice begins from its l-th element on -/
def subP (p : Option Addr) (c sz l : Nat) : Option Addr := if c = l then p else p.map (·.add (l * sz))
theorem Row.sub {α : Type} {enc : α → List Value} {sz : Nat} {G : Rd} {p : Option Addr} {c : Nat} {xs : List α} (h : Row enc sz G p c xs) (l n : Nat) (hl : l + n ≤ xs.length) : Row enc sz G (subP p c sz l) (c - l) ((xs.drop l).take n) := by
  have hc := h.le
  refine ⟨by simp; omega, by have := h.max; omega, fun hn => ?_, fun i x hx j v hv => ?_⟩
  · have h0 : 0 < n := by
      rcases Nat.eq_zero_or_pos n with e | e
      · exact absurd (by rw [e]; simp) hn
      · exact e
    have h1 := h.some_lt (i := l) (by omega)
    unfold subP
    rw [if_neg (by omega)]
    cases p with
    | none => cases h1
    | some _ => rfl
  · rw [List.getElem?_take] at hx
    split at hx
    · rename_i hi
      rw [List.getElem?_drop] at hx
      have h1 := h.some_lt (i := l) (by omega)
      have := h.cell (l + i) x hx j v hv
      rw [← this]
      unfold subP
      rw [if_neg (by omega)]
      cases p with
      | none => cases h1
      | some q =>
        congr 2
        show (q.add (l * sz)).add (i * sz) = q.add ((l + i) * sz)
        rw [Go.Deep.add_add, Nat.add_mul]
    · cases hx
section
variable {P : Program} {K : Cx} {ρ : Env} {m r : List HP} {dst : Option Nat} {ty t e : TypeId} {pos : String} {aft : Array Edge} {g : Option (Nat × Bool)} {v : Value} {x y z : Operand} {ops : Array Oper} {Q : Exit → Act → World → Prop} {rest : List Oper} {d sz n c bytes : Nat} {zs xs : List Value} {p : Option Addr} {G : Rd}
/-- `x[l:l + k]` -/
theorem y_subR [S : SlT P t e sz] (l k : Nat) {k1 k2 : IntKind} {lo hi : Int} (hx : opv ρ x = some (.slice p n c)) (hy : opv ρ y = some (.int k1 lo)) (hz : opv ρ z = some (.int k2 hi)) (hlo : lo = (l : Int)) (hhi : hi = ((l + k : Nat) : Int)) (h3 : l + k ≤ c) :
    Yi P K ρ m ⟨dst, .slice t x (some y) (some z) none, ty, pos, aft, g⟩ (.slice (subP p c sz l) k (c - l)) := ⟨fun A w hf _ => by
  obtain ⟨h, hh⟩ : ∃ h, h = l + k := ⟨_, rfl⟩
  rw [← hh] at hhi h3
  subst hlo hhi
  have he : P.elem t = e := by simp [Program.elem, S.und]
  have ht' : P.underlying t = some (.slice (P.elem t)) := by rw [he]; exact S.und
  have h4 : (Instr.sliceAt t (.slice p n c) (some (.int k1 (l : Int))) (some (.int k2 (h : Int))) none).run P w = .ok (.slice (subP p c sz l) k (c - l)) w := by
    rw [run_sliceAt_slice (w := w) t _ _ _ _ ht', run_slice_lh (w := w) t p n c ht' k1 k2 (l : Int) (h : Int) (by omega) (by omega) (by omega), he, S.size w]
    simp only [Result.andThen, sliced, subP, Int.toNat_natCast]
    rw [show h - l = k by omega]
  simp only [execOp, Option.map_some, Option.map_none, hf.eval hx, hf.eval hy, hf.eval hz]
  simp [h4]⟩
/-- `x[l:]` -/
theorem y_subL [S : SlT P t e sz] (l : Nat) {k1 : IntKind} {lo : Int} (hx : opv ρ x = some (.slice p n c)) (hy : opv ρ y = some (.int k1 lo)) (hlo : lo = (l : Int)) (h2 : l ≤ n) (_h3 : n ≤ c) :
    Yi P K ρ m ⟨dst, .slice t x (some y) none none, ty, pos, aft, g⟩ (.slice (subP p c sz l) (n - l) (c - l)) := ⟨fun A w hf _ => by
  subst hlo
  have he : P.elem t = e := by simp [Program.elem, S.und]
  have ht' : P.underlying t = some (.slice (P.elem t)) := by rw [he]; exact S.und
  have h4 : (Instr.sliceAt t (.slice p n c) (some (.int k1 (l : Int))) none none).run P w = .ok (.slice (subP p c sz l) (n - l) (c - l)) w := by
    rw [run_sliceAt_slice (w := w) t _ _ _ _ ht', run_slice_l (w := w) t p n c ht' k1 (l : Int) (by omega) (by omega), he, S.size w]
    simp only [Result.andThen, sliced, subP, Int.toNat_natCast]
  simp only [execOp, Option.map_some, Option.map_none, hf.eval hx, hf.eval hy]
  simp [h4]⟩
/-- `x[:k]` -/
theorem y_subH [S : SlT P t e sz] (k : Nat) {k1 : IntKind} {hi : Int} (hx : opv ρ x = some (.slice p n c)) (hy : opv ρ y = some (.int k1 hi)) (hhi : hi = (k : Int)) (h3 : k ≤ c) :
    Yi P K ρ m ⟨dst, .slice t x none (some y) none, ty, pos, aft, g⟩ (.slice p k c) := ⟨fun A w hf _ => by
  subst hhi
  have he : P.elem t = e := by simp [Program.elem, S.und]
  have ht' : P.underlying t = some (.slice (P.elem t)) := by rw [he]; exact S.und
  have h4 : (Instr.sliceAt t (.slice p n c) none (some (.int k1 (k : Int))) none).run P w = .ok (.slice p k c) w := by
    rw [run_sliceAt_slice (w := w) t _ _ _ _ ht', run_slice_h (w := w) t p n c ht' k1 (k : Int) (by omega) (by omega), he, S.size w]
    simp only [Result.andThen, sliced, Int.toNat_natCast]
    cases p with
    | none => simp
    | some a => simp [Addr.add]
  simp only [execOp, Option.map_some, Option.map_none, hf.eval hx, hf.eval hy]
  simp [h4]⟩
/-- .. in a told order -/
theorem WP_appendN {α : Type} {enc : α → List Value} {ys : List α} {cp j k : Nat} {qp : Option Addr} {L : Act → Cl → Prop} {E : List PanicEntry → World → Prop} {m0 pm : List HP} {rest : List Nat} {listed : Array Bool} [S : ElT P t e sz zs bytes] (hs : ∀ x, (enc x).length = sz) (h0 : 0 < sz) (h1 : ∀ x ∈ ys, ∀ u ∈ enc x, u.oneCell' = true) (hR : Row enc sz G qp cp ys) (hl : ys.length = j)
    (hk : ops[k]? = some ⟨some d, .call ⟨.builtin .append, #[x, y], #[t, t]⟩, ty, pos, aft, g⟩) (hso : soleB .any ops listed k = true) (hx : opv ρ x = some (.slice p n c)) (hy : opv ρ y = some (.slice qp j cp)) (hp : Pick m (sl e sz p n c xs) r) {r2 : List HP} (hro : Pick m (ro K.w0 K.F G) r2) (hr : Ent r (pm ++ m0))
    (hmax : (n + j) * bytes ≤ 140737488355328) (hmax2 : n + j ≤ 140737488355328) (hg : guardB ops g ρ = some true) (hn : (guardN K.N ops g && Nat.blt d K.N) = true)
    (k' : ∀ q2 c2, WP P K E ops L m0 rest (listed.setIfInBounds k true) ((d, .slice q2 (n + j) c2) :: ρ) (sl e sz q2 (n + j) c2 (xs ++ ys.flatMap enc) :: r)) : WP P K E ops L m0 (k :: rest) listed ρ m := by
  subst hl
  refine ⟨fun a hf => ?_⟩
  simp only [Bool.and_eq_true] at hn
  unfold wpHeadP
  rw [hk]
  simp only
  unfold headP
  rw [if_pos (guard_wanted hf hg (guardN_spec hn.1))]
  refine .inr ⟨hso, Option Addr × Nat, fun z => .slice z.1 (n + ys.length) z.2, fun z => Holds K.w0 K.F (sl e sz z.1 (n + ys.length) z.2 (xs ++ ys.flatMap enc) :: r), fun x => Holds.closed _ _ _, fun z W hW => ((Holds.drop (m1 := [sl e sz z.1 (n + ys.length) z.2 (xs ++ ys.flatMap enc)]) hW).ent hr).drop, fun w hm => ?_, fun z => (k' z.1 z.2).run _ (hf.put (blt_lt hn.2) _)⟩
  cases qp with
  | none =>
    have hys : ys = [] := by
      cases ys with
      | nil => rfl
      | cons y ys => have := hR.some_lt (i := 0) (by simp); simp at this
    subst hys
    obtain ⟨i, z, hi, hz, hsz, hby, hzs⟩ := S.info
    rw [run_bi hf hx hy (run_append_none0 0 i sz S.und hi (.slice p n c) cp (hm.slR hp))]
    refine ⟨(p, c), rfl, ?_⟩
    simp only [List.length_nil, Nat.add_zero, List.flatMap_nil, List.append_nil]
    exact hm.ent (Ent.cons hp Ent.refl)
  | some q =>
    have hlen : ∀ ys : List α, (ys.flatMap enc).length = ys.length * sz := by
      intro ys
      induction ys with
      | nil => simp
      | cons y ys ih => rw [List.flatMap_cons, List.length_append, hs, ih, List.length_cons, Nat.succ_mul]; omega
    obtain ⟨q2, c2, w', hr2, hh, _⟩ := append_core (P := P) (t := t) (ty := ty) (c' := cp) hm hp (row_cells hs h0 hR (hm.le hro)) (hlen ys) (fun u hu => by obtain ⟨z, hzm, hz⟩ := List.mem_flatMap.1 hu; exact h1 z hzm u hz) hmax hmax2
    rw [run_bi hf hx hy hr2]
    exact ⟨(q2, c2), rfl, hh⟩
end
/-! ## maps of ints to ints -/
def mqEnt (q : (Int × Int) × Nat) : MapEntry := { key := .int .i64 q.1.1, val := .int .i64 q.1.2, born := q.2 }
def mqE (ks : List (Int × Int)) : Array MapEntry := (ks.zipIdx.map mqEnt).toArray
/-- the map with these keys, in the order in which they came, lies there -/
def MapAt (w : World) (b : Nat) (ks : List (Int × Int)) : Prop := w.heap[b]? = some (.map (mqE ks) ks.length)
/-- block b: that map -/
def mq (b : Nat) (ks : List (Int × Int)) : HP where
  p w fp := fp = [b] ∧ w.heap[b]? = some (.map (mqE ks) ks.length)
  st w w' fp h := by rintro ⟨rfl, hb⟩; exact ⟨rfl, (h b (by simp)).trans hb⟩
  lt w fp := by
    rintro ⟨rfl, hb⟩ i hi
    have : i = b := by simpa using hi
    subst this
    exact (Array.getElem?_eq_some_iff.1 hb).1
/-- where a key stands, and what it has -/
def findI (l : Int) : List (Int × Int) → Nat → Option (Nat × Int)
  | [], _ => none
  | k :: r, i => if l = k.1 then some (i, k.2) else findI l r (i + 1)
def getI (ks : List (Int × Int)) (l : Int) : Int := ((findI l ks 0).map Prod.snd).getD 0
def hasI (ks : List (Int × Int)) (l : Int) : Bool := (findI l ks 0).isSome
theorem findNow_mq (l : Int) : ∀ (ks : List (Int × Int)) (j i : Nat), Instr.findNow (.int .i64) (.int .i64 l) ((ks.zipIdx j).map mqEnt) i = some ((findI l ks i).map fun q => (q.1, .int .i64 q.2))
  | [], _, _ => rfl
  | k :: r, j, i => by
    rw [List.zipIdx_cons, List.map_cons, Instr.findNow, findI]
    have h : Instr.sameNow (.int .i64) (.int .i64 l) (mqEnt (k, j)).key = some (decide (l = k.1)) := by
      show (if IntKind.i64 = IntKind.i64 then some (l == k.1) else none) = _
      rw [if_pos rfl]
      rfl
    rw [h]
    by_cases e : l = k.1
    · rw [decide_eq_true e, if_pos e]; rfl
    · rw [decide_eq_false e, if_neg e]
      exact findNow_mq l r (j + 1) (i + 1)
theorem mqE_push (ks : List (Int × Int)) (k : Int × Int) : mqE (ks ++ [k]) = (mqE ks).push (mqEnt (k, ks.length)) := by
  unfold mqE
  rw [List.zipIdx_append, List.map_append]
  simp
class MapI (P : Program) (t : TypeId) : Prop where
  ok : ∃ kt et, P.underlying t = some (.map kt et) ∧ P.underlying kt = some (.int .i64) ∧ ∀ w, (zeroValue et).run P w = .ok (.int .i64 0) w
theorem Holds.mq {w0 w : World} {F : List Nat} {m r : List HP} {b : Nat} {ks : List (Int × Int)} (hh : Holds w0 F m w) (hp : Pick m (mq b ks) r) : MapAt w b ks := by
  obtain ⟨fp, h⟩ := hh.pick hp
  exact h.2
theorem MapAt.keep {w w' : World} {b : Nat} {ks : List (Int × Int)} (h : MapAt w b ks) (hk : Keep w [] w') : MapAt w' b ks := by
  have hlt : b < w.heap.size := (Array.getElem?_eq_some_iff.1 h).1
  unfold MapAt at *
  rw [← h]
  exact hk.block b hlt (by simp)
section
variable {P : Program} {K : Cx} {ρ : Env} {m r : List HP} {dst : Option Nat} {ty t t' : TypeId} {pos : String} {aft : Array Edge} {g : Option (Nat × Bool)} {v : Value} {x y z : Operand} {ops : Array Oper} {Q : Exit → Act → World → Prop} {rest : List Oper} {d : Nat}
theorem WL_makeMapI [S : MapI P t] {k0 : IntKind} {h0 : Int} (hx : opv ρ x = some (.int k0 h0)) (hg : guardB ops g ρ = some true) (hn : (guardN K.N ops g && Nat.blt d K.N) = true) (k : ∀ b, WL P K ops Q rest ((d, .map (some b)) :: ρ) (mq b [] :: m)) :
    WL P K ops Q (⟨some d, .makeMap t (some x), ty, pos, aft, g⟩ :: rest) ρ m := by
  refine WL_step hg hn fun a w hf hm => ?_
  obtain ⟨kt, et, h1, h2, h3⟩ := S.ok
  refine ⟨_, _, w.alloc (.map #[] 0), ?_, ?_, k w.heap.size⟩
  · simp only [execOp, Option.map_some, hf.eval hx]
    simp [Instr.makeMap, run_underlying h1, Result.andThen, go_sem]
  · refine Holds.add (m1 := [mq w.heap.size []]) hm ⟨Keep.ofBelow ((Below.refl _ _).alloc (Nat.le_refl _) _), [w.heap.size], ⟨[w.heap.size], [], rfl, ⟨rfl, ?_⟩, rfl, by simp⟩, fun i hi h => ?_⟩
    · show (w.heap.push _)[w.heap.size]? = _
      simp [mqE]
    · have : i = w.heap.size := by simpa using hi
      omega
theorem y_lookupI [S : MapI P t] {b : Nat} {ks : List (Int × Int)} {l : Int} (hx : opv ρ x = some (.map (some b))) (hy : opv ρ y = some (.int .i64 l)) (hp : ∀ w, Holds K.w0 K.F m w → MapAt w b ks) :
    Yi P K ρ m ⟨dst, .lookup t x y true, ty, pos, aft, g⟩ (.tuple #[.int .i64 (getI ks l), .bool (hasI ks l)]) := ⟨fun a w hf hw => by
  obtain ⟨kt, et, h1, h2, h3⟩ := S.ok
  have hb := hp w hw
  unfold MapAt at hb
  have hc : (Instr.checkKey (mqE ks).isEmpty 10000 kt (.int .i64 l)).run P w = .ok () w := MapKept.run_checkKey (k := .int _ _) h2 (by simp [MapKept.IsKey]) _ 9999
  have hf' := MapKept.run_findKey (w := w) h2 (findNow_mq l ks 0 0)
  have e : (mqE ks).toList = (ks.zipIdx 0).map mqEnt := by unfold mqE; simp
  rw [← e] at hf'
  simp only [execOp, hf.eval hx, hf.eval hy]
  cases hk : findI l ks 0 with
  | none =>
    rw [hk] at hf'
    simp only [Option.map_none] at hf'
    simp [Instr.lookup, run_underlying h1, MapKept.run_getObj_map hb, hc, hf', h3, Result.andThen, getI, hasI, hk]
  | some q =>
    rw [hk] at hf'
    simp only [Option.map_some] at hf'
    simp [Instr.lookup, run_underlying h1, MapKept.run_getObj_map hb, hc, hf', Result.andThen, getI, hasI, hk]⟩
theorem WL_mapNewI [S : MapI P t] {b : Nat} {ks : List (Int × Int)} {l : Int} {i : Int} (hx : opv ρ x = some (.map (some b))) (hy : opv ρ y = some (.int .i64 l)) (hz : opv ρ z = some (.int .i64 i)) (hp : Pick m (mq b ks) r) (hno : hasI ks l = false)
    (hg : guardB ops g ρ = some true) (hn : guardN K.N ops g = true) (k : WL P K ops Q rest ρ (mq b (ks ++ [(l, i)]) :: r)) :
    WL P K ops Q (⟨none, .mapUpdate t x y z, ty, pos, aft, g⟩ :: rest) ρ m := by
  refine WL_stepU hg hn fun a w hf hm => ?_
  obtain ⟨kt, et, h1, h2, h3⟩ := S.ok
  have hb := hm.mq hp
  unfold MapAt at hb
  have hc : (Instr.checkKey false 10000 kt (.int .i64 l)).run P w = .ok () w := MapKept.run_checkKey (k := .int _ _) h2 (by simp [MapKept.IsKey]) _ 9999
  have hf' := MapKept.run_findKey (w := w) h2 (findNow_mq l ks 0 0)
  have e : (mqE ks).toList = (ks.zipIdx 0).map mqEnt := by unfold mqE; simp
  have hk : findI l ks 0 = none := by
    unfold hasI at hno
    cases h : findI l ks 0 with
    | none => rfl
    | some q => rw [h] at hno; cases hno
  rw [← e, hk] at hf'
  simp only [Option.map_none] at hf'
  refine ⟨_, { w with heap := w.heap.setIfInBounds b (.map (mqE (ks ++ [(l, i)])) (ks ++ [(l, i)]).length) }, ?_, hm.turn (m1 := [mq b (ks ++ [(l, i)])]) hp fun f1 hf1 => ?_, k⟩
  · simp only [execOp, hf.eval hx, hf.eval hy, hf.eval hz]
    simp [Instr.mapUpdate, run_underlying h1, MapKept.run_getObj_map hb, hc, hf', MapKept.run_setObj_map _ hb, Result.andThen, mqE_push, mqEnt]
  · obtain ⟨rfl, _⟩ := hf1
    have hs := MapKept.heap_set (o' := .map (mqE (ks ++ [(l, i)])) (ks ++ [(l, i)]).length) hb
    exact ⟨⟨rfl, rfl, rfl, by simp, fun j _ hj => hs.2 j (by simpa using hj)⟩, [b], ⟨[b], [], rfl, ⟨rfl, hs.1⟩, rfl, by simp⟩, fun _ hi _ => hi⟩
end
end Go.Proofs.YtadlpfbjnpbnoaaGreatDoor
