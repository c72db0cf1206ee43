/-
  eval: numbers as an array.
  What an expression's value does not hang on: other names, what stands around it. Of no program.
  Laws of values, told plainly: what is given is told; one or the other. Of no program.
  The logic of walks: is a pointer none? Of no program.
-/
import Derived.Test.YtllgkdkjcbohcaaGreatDoorZGo
import Derived.Test.YtllgkdkjcbohcaaGreatDoorZEvB
import Derived.Test.YtllgkdkjcbohcaaGreatDoorZStpL
import Derived.Test.YtllgkdkjcbohcaaGreatDoorZTwoEx
import Derived.Test.YtllgkdkjcbohcaaGreatDoorZBitL
import Derived.Test.YtllgkdkjcbohcaaGreatDoorZPerm
import Derived.Laws.Pointers
namespace Go.Proofs.YtllgkdkjcbohcaaGreatDoor
open Go.RowKit
theorem Holds.roAddE {w0 w : World} {F : List Nat} {G : Rd} {m : List HP} (hS : Rd.sub G F w0) (h : Holds w0 F m w) : Holds w0 F (ro w0 F G :: m) w := by
  obtain ⟨fp, ho, hF⟩ := h.own
  exact ⟨h.keep, fp, ⟨[], fp, rfl, ⟨by simp, fun a v e => .inr ⟨cell_lt (hS a v e).1, (hS a v e).2, (hS a v e).1⟩⟩, ho, by simp⟩, hF⟩
/-- a copy, which may be read -/
theorem clone_T {p : Option Addr} {c : Nat} {xs : List Int} {G : Rd} {w : World} (hR : Row encI 1 G p c xs) (hlen : xs.length ≤ 4294967280) (hS : Rd.sub G [] w) :
    Calls Tryz.prog 54 #[.slice p xs.length c] w (Tells (fun x : Option Addr × Nat => .slice x.1 xs.length x.2) (fun x G' => Row encI 1 G' x.1 x.2 xs) G w) :=
  (ints_Clone p c xs G w hR hlen (fun x u e => (hS x u e).1)).mono fun e w' ⟨x, _, he, hh⟩ => by
    have h1 : Holds w [] (ro w [] G :: sl 3 1 x.1 xs.length x.2 (xs.map (Value.int .i64)) :: []) w' := Holds.roAddE hS hh
    rw [← flatA] at h1
    obtain ⟨G', g1, g2, g3⟩ := Holds.toRo (enc := encI) (sz := 1) (fun _ => rfl) (by decide) h1 (fun _ _ => by simp)
    exact ⟨x, G', g2, he, g1, g3⟩
set_option maxRecDepth 100000 in
theorem eval_Nums (q : Option Addr) (k : Nat) (xs : List Int) (hlen : xs.length ≤ 4294967280) (hI : ∀ n ∈ xs, I64 n) (G : Rd) (w : World) (hS : Rd.le G w.cell?) (hR : Row encI 1 G q k xs) :
    Calls Tryz.prog 100 #[.slice q xs.length k] w (Tells arrV (fun z G' => z.arr = numsA xs ∧ ArrG G' z) G w) := by
  refine enterR (args := [_]) (m := []) (F := []) hS.sub rfl Tryz.func100 rfl Tryz.ntmps100 (by simp) ?_
  clear hS
  by_cases h1 : xs.length = 1
  · obtain ⟨n, rfl⟩ := List.length_eq_one_iff.1 h1
    have hn : ([n] : List Int)[0]? = some n := rfl
    have hIn := hI n (by simp)
    ((repeat' (first|refine zza ?_|refine zc9 ?_|refine zzb fun w hw => ?_|refine zzh fun _ => ?_|refine zzi fun _ _ => ?_|refine zu1 ?_|refine zu2 ?_|refine zu3 ?_|refine zu4 fun _ => ?_|refine zzj (fun _ => ?_) fun _ => ?_)); (repeat' (refine CW_seq ?_; (repeat' (first|refine zza ?_|refine zc9 ?_|refine zzb fun w hw => ?_|refine zzh fun _ => ?_|refine zzi fun _ _ => ?_|refine zu1 ?_|refine zu2 ?_|refine zu3 ?_|refine zu4 fun _ => ?_|refine zzj (fun _ => ?_) fun _ => ?_)))))
    rename_i b2
    refine WL_op rfl rfl (y_indexN (i := 0) (sz := 1) rfl rfl (hR.some_lt (i := 0) (by simp)) (by simp)) ?_
    refine WL_op rfl rfl (y_load rfl (rd_row (enc := encI) (sz := 1) (u := n) hR zpk hn)) ?_
    refine WL_bslice rfl rfl rfl rfl rfl rfl rfl fun bs => ?_
    refine WL_rowB (enc := encI) (sz := 1) (b := bs) (T := 3) (u := n) (cs := #[.int .i64 n]) (fun _ => rfl) (by decide) rfl zpk zpk rfl fun G1 g1 r1 => ?_
    ((repeat' (first|refine zza ?_|refine zc9 ?_|refine zzb fun w hw => ?_|refine zzh fun _ => ?_|refine zzi fun _ _ => ?_|refine zu1 ?_|refine zu2 ?_|refine zu3 ?_|refine zu4 fun _ => ?_|refine zzj (fun _ => ?_) fun _ => ?_)); (repeat' (refine CW_seq ?_; (repeat' (first|refine zza ?_|refine zc9 ?_|refine zzb fun w hw => ?_|refine zzh fun _ => ?_|refine zzi fun _ _ => ?_|refine zu1 ?_|refine zu2 ?_|refine zu3 ?_|refine zu4 fun _ => ?_|refine zzj (fun _ => ?_) fun _ => ?_)))))
    exact ⟨⟨false, ⟨none, 0, []⟩, ⟨some ⟨bs, 0, none⟩, 1, [n]⟩⟩, G1, ⟨rfl, Row.nil _ _ _, r1, by simp, hI⟩, rfl, g1, hw.ent (Ent.cons zpk Ent.nil)⟩
  have hnn : numsA xs = ⟨false, [(xs.length : Int)], xs⟩ := by unfold numsA; rw [if_neg h1]
  ((repeat' (first|refine zza ?_|refine zc9 ?_|refine zzb fun w hw => ?_|refine zzh fun _ => ?_|refine zzi fun _ _ => ?_|refine zu1 ?_|refine zu2 ?_|refine zu3 ?_|refine zu4 fun _ => ?_|refine zzj (fun _ => ?_) fun _ => ?_)); (repeat' (refine CW_seq ?_; (repeat' (first|refine zza ?_|refine zc9 ?_|refine zzb fun w hw => ?_|refine zzh fun _ => ?_|refine zzi fun _ _ => ?_|refine zu1 ?_|refine zu2 ?_|refine zu3 ?_|refine zu4 fun _ => ?_|refine zzj (fun _ => ?_) fun _ => ?_)))))
  rename_i b2 bs
  refine WL_callT (r := [blk bs 3 #[.int .i64 (xs.length : Int)], zB b2]) zent rfl rfl rfl (fun W hW => clone_T hR hlen hW) ?_
  rintro ⟨p2, c2⟩ G2 r2 g2
  refine WL_rowB (enc := encI) (sz := 1) (b := bs) (T := 3) (u := (xs.length : Int)) (cs := #[.int .i64 xs.length]) (fun _ => rfl) (by decide) rfl zpk zpk rfl fun G1 g1 r1 => ?_
  ((repeat' (first|refine zza ?_|refine zc9 ?_|refine zzb fun w hw => ?_|refine zzh fun _ => ?_|refine zzi fun _ _ => ?_|refine zu1 ?_|refine zu2 ?_|refine zu3 ?_|refine zu4 fun _ => ?_|refine zzj (fun _ => ?_) fun _ => ?_)); (repeat' (refine CW_seq ?_; (repeat' (first|refine zza ?_|refine zc9 ?_|refine zzb fun w hw => ?_|refine zzh fun _ => ?_|refine zzi fun _ _ => ?_|refine zu1 ?_|refine zu2 ?_|refine zu3 ?_|refine zu4 fun _ => ?_|refine zzj (fun _ => ?_) fun _ => ?_)))))
  refine ⟨⟨false, ⟨some ⟨bs, 0, none⟩, 1, [(xs.length : Int)]⟩, ⟨p2, c2, xs⟩⟩, G1, ⟨hnn.symm, r1, r2.mono g1.1, ?_, hI⟩, rfl, Rd.grow_tr g2 g1, hw.ent (Ent.cons zpk Ent.nil)⟩
  intro x hx
  rw [List.mem_singleton.1 hx]
  exact ⟨by omega, by omega⟩
end Go.Proofs.YtllgkdkjcbohcaaGreatDoor
namespace Go.Proofs.YtllgkdkjcbohcaaGreatDoor
/-- names that nodes have, alike -/
def Agr (env env' : Names) (l : List Nod) : Prop := ∀ n ∈ l, n.op = 3 → env n.text = env' n.text
theorem Agr.left {env env' : Names} {a b : List Nod} (h : Agr env env' (a ++ b)) : Agr env env' a := fun n hn => h n (List.mem_append_left _ hn)
theorem Agr.right {env env' : Names} {a b : List Nod} (h : Agr env env' (a ++ b)) : Agr env env' b := fun n hn => h n (List.mem_append_right _ hn)
theorem Agr.tail {env env' : Names} {n : Nod} {b : List Nod} (h : Agr env env' (n :: b)) : Agr env env' b := fun x hx => h x (List.mem_cons_of_mem _ hx)
end Go.Proofs.YtllgkdkjcbohcaaGreatDoor
namespace Go.Proofs.YtllgkdkjcbohcaaGreatDoor
theorem stepR_pos {f : Int} {k : Int → Res} (h : 0 < f) : stepR f k = k (f - 1) := by rw [stepR, if_neg (by omega)]
end Go.Proofs.YtllgkdkjcbohcaaGreatDoor
namespace Go.Proofs.YtllgkdkjcbohcaaGreatDoor
open Go.RowKit
class PtrT (P : Program) (t : TypeId) : Prop where
  und : P.underlying t = some (.pointer (P.pointee t))
section
variable {P : Program} {K : Cx} {ρ : Env} {m : List HP} {dst : Option Nat} {ty t t' : TypeId} {pos : String} {aft : Array Edge} {g : Option (Nat × Bool)} {x : Operand} {q : Option Addr}
theorem y_eqP [S : PtrT P t] (hx : opv ρ x = some (.pointer q)) : Yi P K ρ m ⟨dst, .binOp .eql t x (.const (.pointer none)) t', ty, pos, aft, g⟩ (.bool q.isNone) := ⟨fun a w hf _ => by
  have h1 := run_equal_pointer_nil (P := P) w t q S.und
  simp only [execOp, hf.eval hx, hf.eval (show opv ρ (.const (.pointer none)) = some (.pointer none) from rfl)]
  simp [eqGuard, binOp, h1]⟩
/-- a block made, in a told order -/
theorem WP_alloc {zs : List Value} {ops : Array Oper} {k d : Nat} {listed : Array Bool} {rest : List Nat} {m0 : List HP} {E : List PanicEntry → World → Prop} {L : Act → Cl → Prop} [S : ZT P t zs] (hk : ops[k]? = some ⟨some d, .alloc t, ty, pos, aft, g⟩) (hso : soleB .any ops listed k = true) (hr : ∃ pm, Ent m (pm ++ m0))
    (hg : guardB ops g ρ = some true) (hn : (guardN K.N ops g && Nat.blt d K.N) = true) (k' : ∀ b : Nat, WP P K E ops L m0 rest (listed.setIfInBounds k true) ((d, .pointer (some ⟨b, 0, none⟩)) :: ρ) (blk b t zs.toArray :: m)) :
    WP P K E ops L m0 (k :: rest) listed ρ m := by
  refine ⟨fun a hf => ?_⟩
  simp only [Bool.and_eq_true] at hn
  unfold wpHeadP
  rw [hk]
  simp only
  unfold headP
  rw [if_pos (guard_wanted hf hg (guardN_spec hn.1))]
  obtain ⟨pm, hr⟩ := hr
  obtain ⟨z, hz, hc⟩ := S.ok
  refine .inr ⟨hso, Nat, fun b => .pointer (some ⟨b, 0, none⟩), fun b => Holds K.w0 K.F (blk b t zs.toArray :: m), fun _ => Holds.closed _ _ _, fun b W hW => ((Holds.drop (m1 := [blk b t zs.toArray]) hW).ent hr).drop, fun w hm => ?_, fun b => (k' b).run _ (hf.put (blt_lt hn.2) _)⟩
  have h : (execOp a.eval ⟨some d, .alloc t, ty, pos, aft, g⟩).run P w = .ok (.value (.pointer (some ⟨w.heap.size, 0, none⟩))) (w.alloc (.cells zs.toArray t)) := by
    unfold Value.cells at hc
    simp [execOp, hz, hc, go_sem]
  rw [h]
  exact ⟨w.heap.size, rfl, hm.new t zs.toArray⟩
end
end Go.Proofs.YtllgkdkjcbohcaaGreatDoor
