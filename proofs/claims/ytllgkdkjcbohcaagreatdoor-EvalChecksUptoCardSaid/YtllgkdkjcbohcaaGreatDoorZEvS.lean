/-
  eval: an expression with a function: where its parts stand; acted whole.
  eval: an expression with a function: the call that is next; acted whole.
  eval: the value of every expression of a tree in which no function is written out and no part is taken at indices.
-/
import Derived.Test.YtllgkdkjcbohcaaGreatDoorZGo
import Derived.Test.YtllgkdkjcbohcaaGreatDoorZEvA
namespace Go.Proofs.YtllgkdkjcbohcaaGreatDoor
open Go.RowKit
set_option maxHeartbeats 16000000 in
set_option maxRecDepth 100000 in
/-- the place behind what is written out of a function: of none -/
theorem act_right0 (p : Option Addr) (c : Nat) (L : List NodM) (x : NodM) (a6 : x.aop ≠ 6) (hn0 : 0 ≤ x.n) (b : Exs) (kl kb : Nat) (z : CtxM) (be bm b3 b6 b7 : Nat) (fu : Int) (G : Rd) (w : World) (fp : List Nat) (R : Ending → World → Prop)
    (hbl : b.len = if x.aop = 6 then 2 * x.n.toNat + 1 else 0)
    (tail : CW Tryz.prog ⟨118, [], w, fp⟩ (QBody Tryz.prog Tryz.f171 R) (cP [1, 1, 1, 1, 1, 1] acode)
      [(1, .slice p L.length c), (3, ptrV b3), (6, ptrV b6), (7, ptrV b7), (8, .int .i64 (kl : Int)), (9, .int .i64 (kb : Int)), (10, .int .i64 ((kb + b.flat.length : Nat) : Int))] [ro w fp G, evs be bm fu, nodB b7 x, zB b6, cxB b3 z be]) :
    CW Tryz.prog ⟨118, [], w, fp⟩ (QBody Tryz.prog Tryz.f171 R) (cP [1, 1, 1, 1, 1] acode)
      [(1, .slice p L.length c), (3, ptrV b3), (6, ptrV b6), (7, ptrV b7), (8, .int .i64 (kl : Int)), (9, .int .i64 (kb : Int)), (10, .int .i64 (kb : Int))] [ro w fp G, evs be bm fu, nodB b7 x, zB b6, cxB b3 z be] := by
  obtain ⟨xop, xaop, xaf, xag, xn, xnums, xtext⟩ := x
  dsimp only at hn0 hbl tail a6 ⊢
  obtain ⟨nn, rfl⟩ := Int.eq_ofNat_of_zero_le hn0
  rw [Int.toNat_natCast] at hbl
  conv => pattern (occs := 1) cP _ _; whnf
  have hx6 : (⟨xop, xaop, xaf, xag, (nn : Int), xnums, xtext⟩ : NodM).aop ≠ 6 := a6
  rw [if_neg a6] at hbl
  have hb0 : b.flat.length = 0 := by rw [Exs.len_zero hbl]; rfl
  rw [hb0, Nat.add_zero] at tail
  repeat' (first | exact CW_cov zcov (CW_ent zent tail) | refine zza ?_ | refine zzh fun _ => ?_)
  repeat' (refine CW_seq ?_; repeat' (first | exact CW_cov zcov (CW_ent zent tail) | refine zza ?_ | refine zzh fun _ => ?_))
end Go.Proofs.YtllgkdkjcbohcaaGreatDoor
namespace Go.Proofs.YtllgkdkjcbohcaaGreatDoor
open Go.RowKit
set_option maxHeartbeats 16000000 in
set_option maxRecDepth 100000 in
theorem act_next (p : Option Addr) (c : Nat) (L : List NodM) (x : NodM) (hn0 : 0 ≤ x.n) (b : Exs) (kl kb kr dd : Nat) (restb : List Nod) (z : CtxM) (fn : Exs) (al : Option Arr) (om : Arr) (be bm b3 b6 b7 : Nat) (fu : Int) (G : Rd) (w : World) (fp : List Nat) (R : Ending → World → Prop)
    (hb : (L.map NodM.nod).drop kb = b.flat ++ restb) (hbo : b.ok (dd + 1)) (hbl : b.len = if x.aop = 6 then 2 * x.n.toNat + 1 else 0) (h7 : x.aop = 7 → 0 < dd) (hd : z.deep ≤ 50)
    (hC : CtxOk p c L G z fn al om dd)
    (tail : ∀ (b11 : Nat) (z0 : CtxM), NextOk p c L G z0 x b fn dd → z0.deep = z.deep + 1 → z0.alpha = none →
      CW Tryz.prog ⟨118, [], w, fp⟩ (QBody Tryz.prog Tryz.f171 R) (cP [1, 1, 1, 1, 1, 1, 1, 1] acode) [(1, .slice p L.length c), (3, ptrV b3), (6, ptrV b6), (7, ptrV b7), (8, .int .i64 (kl : Int)), (10, .int .i64 (kr : Int)), (11, ptrV b11)] [ro w fp G, evs be bm fu, cxB b11 z0 be, nodB b7 x, zB b6, cxB b3 z be]) :
    CW Tryz.prog ⟨118, [], w, fp⟩ (QBody Tryz.prog Tryz.f171 R) (cP [1, 1, 1, 1, 1, 1] acode)
      [(1, .slice p L.length c), (3, ptrV b3), (6, ptrV b6), (7, ptrV b7), (8, .int .i64 (kl : Int)), (9, .int .i64 (kb : Int)), (10, .int .i64 (kr : Int))] [ro w fp G, evs be bm fu, nodB b7 x, zB b6, cxB b3 z be] := by
  obtain ⟨xop, xaop, xaf, xag, xn, xnums, xtext⟩ := x
  dsimp only at hn0 hbl h7 tail ⊢
  obtain ⟨nn, rfl⟩ := Int.eq_ofNat_of_zero_le hn0
  rw [Int.toNat_natCast] at hbl
  conv => pattern cP _ _; whnf
  by_cases a7 : xaop = 7
  · have hdd := h7 a7
    obtain ⟨c1, c2, c3, c4, c5, c6⟩ := hC.body hdd
    have hN : NextOk p c L G ⟨z.pb, z.nb, z.cb, z.k, z.n, none, zeroM, z.deep + 1⟩ ⟨xop, xaop, xaf, xag, (nn : Int), xnums, xtext⟩ b fn dd :=
      ⟨fun h => by have h : xaop = 6 := h; omega, fun _ => ⟨hdd, fun v q al' G' hl hv h1 ha => ⟨fun _ => ⟨c1, c2, c3, c4, c5, c6⟩, ha, hv, rfl, fun _ => h1⟩⟩⟩
    have key := fun b11 => tail b11 _ hN rfl rfl
    clear hC hb hbo hbl h7 c4 c5 tail
    have hx7 : (⟨xop, xaop, xaf, xag, (nn : Int), xnums, xtext⟩ : NodM).aop = 7 := a7
    (repeat' (first|refine zza ?_|refine zzb fun w hw => ?_|refine zzh fun _ => ?_|refine zzi fun _ _ => ?_|refine zzj (fun _ => ?_) fun _ => ?_))
    (repeat' (refine CW_seq ?_; (repeat' (first|refine zza ?_|refine zzb fun w hw => ?_|refine zzh fun _ => ?_|refine zzi fun _ _ => ?_|refine zzj (fun _ => ?_) fun _ => ?_))))
    rename_i b11
    refine CW_perm 11 [0, 1, 2, 3, 4, 5, 6, 7, 8, 9, 10] [ro w fp G, evs be bm fu, nodB b7 ⟨xop, xaop, xaf, xag, (nn : Int), xnums, xtext⟩, zB b6, cxB b3 z be] [] zcov (pm := [_]) (Ent.cons zpk zent) (by kernel_rfl) (by decide +kernel) (by kernel_rfl) ?_
    (refine WP_op rfl rfl rfl zyi ?_)
    (refine WP_op rfl rfl rfl zyi ?_)
    (refine WP_op rfl rfl rfl zyi ?_)
    (refine WP_op rfl rfl rfl zyi ?_)
    (refine WP_op rfl rfl rfl zyi ?_)
    (refine WP_op rfl rfl rfl zyi ?_)
    (refine WP_op rfl rfl rfl zyi ?_)
    refine WP_store (pm := []) rfl (by decide +kernel) rfl rfl rfl zpk zent rfl rfl rfl ?_
    (refine WP_op rfl rfl rfl zyi ?_)
    refine WP_store (pm := []) rfl (by decide +kernel) rfl rfl rfl zpk zent rfl rfl rfl ?_
    (refine WP_op rfl rfl rfl zyi ?_)
    refine WP_end ?_
    repeat' (first | exact CW_cov zcov (CW_ent (Ent.cons zpk (Ent.cons zpk (Ent.consK (k := zent) zpk))) (key _)) | refine zza ?_ | refine zzh fun _ => ?_)
  · have hN : NextOk p c L G ⟨p, L.length, c, kb, nn, none, zeroM, z.deep + 1⟩ ⟨xop, xaop, xaf, xag, (nn : Int), xnums, xtext⟩ b fn dd :=
      ⟨fun h v q al' G' hl hv h1 ha => ⟨fun _ => ⟨rfl, rfl, rfl, ⟨restb, hb⟩, hbo, by rw [hbl, if_pos h]⟩, ha, hv, rfl, fun _ => h1⟩, fun h => absurd h a7⟩
    have key := fun b11 => tail b11 _ hN rfl rfl
    clear hC hb hbo hbl h7 tail
    have hx7 : (⟨xop, xaop, xaf, xag, (nn : Int), xnums, xtext⟩ : NodM).aop ≠ 7 := a7
    repeat' (first | exact CW_cov zcov (CW_ent (Ent.cons zpk (Ent.cons zpk (Ent.consK (k := zent) zpk))) (key _)) | refine zza ?_ | refine zzh fun _ => ?_)
    repeat' (refine CW_seq ?_; repeat' (first | exact CW_cov zcov (CW_ent (Ent.cons zpk (Ent.cons zpk (Ent.consK (k := zent) zpk))) (key _)) | refine zza ?_ | refine zzh fun _ => ?_))
end Go.Proofs.YtllgkdkjcbohcaaGreatDoor
namespace Go.Proofs.YtllgkdkjcbohcaaGreatDoor
open Go.RowKit
set_option maxHeartbeats 16000000 in
set_option maxRecDepth 100000 in
theorem acted_simple (Pm : Prims) (p : Option Addr) (c : Nat) (L : List NodM) (ks : List (List UInt8 × Value)) (env : Names) (D N : Nat) (hG : Given Pm L) (hs : ∀ y ∈ L, y.aop ≠ 6 ∧ y.aop ≠ 7)
    (hV : ValC Pm p c L ks env D N) : PartC 171 6 7 Pm p c L ks env D (N + 1) := by
  intro e k dd rest z fn al om be bm fu G w fp h67 hN hok hk hD hC hS hM hne hI hO hSub
  obtain ⟨g1, _⟩ := head_sub hk
  obtain ⟨x, hx, hxn⟩ := nod_at g1
  have hxL := List.mem_of_getElem? hx
  have hxG := hS.nods x hxL
  have hlt : k < L.length := (List.getElem?_eq_some_iff.1 hx).1
  have hrow := hS.row
  have hL := hS.len
  have hRun : (∃ y ∈ L, y.aop = 6 ∨ y.aop = 7) → RunC Pm p c L ks env D := fun ⟨y, hy, h⟩ => by have := hs y hy; omega
  have hfp := own_evs hO
  have hnm : ∀ W, Keep w fp W → MapVAt W bm ks := fun W hk => hM.keep hk (by rw [hfp]; simpa using hne)
  obtain ⟨s6, s7⟩ := hs x hxL
  refine enterR (args := [_, _, _]) hSub hO Tryz.func171 rfl Tryz.ntmps171 (by simp) ?_
  cases e with
  | leaf n => exfalso; obtain ⟨_, h2⟩ := hok; have : n.op = 6 ∨ n.op = 7 := h67; omega
  | pick n o b => exfalso; obtain ⟨⟨_, h2, _⟩, _⟩ := hok; have : n.op = 6 ∨ n.op = 7 := h67; omega
  | one n b r =>
    have hn : n = x.nod := hxn.symm
    subst hn
    obtain ⟨⟨q1, q2, q3, q4⟩, q5, q6⟩ := hok
    have h6 : x.op = 6 := q2
    have hn0 : 0 ≤ x.n := right_n q1
    have hb0 : b = .nil := Exs.len_zero (by rw [q3]; exact if_neg s6)
    subst hb0
    have hkr : (L.map NodM.nod).drop (k + 1) = r.flat ++ rest := by
      have := congrArg List.tail hk
      rw [List.tail_drop] at this
      rw [this]
      simp [Ex.flat, Exs.flat]
    have hNr : r.flat.length ≤ N := by simp only [Ex.flat, Exs.flat, List.nil_append, List.length_cons] at hN; omega
    have key : ∀ b3 b6 b7 : Nat, CW Tryz.prog ⟨118, [], w, fp⟩ (QBody Tryz.prog Tryz.f171 (EGot be bm (evX Pm env (runD Pm env D) fn al om (.one x.nod .nil r) fu) G w fp)) (cP [1, 1, 1, 1, 1] acode)
      [(1, .slice p L.length c), (3, ptrV b3), (6, ptrV b6), (7, ptrV b7), (8, .int .i64 ((k + 1 : Nat) : Int)), (9, .int .i64 ((k + 1 : Nat) : Int)), (10, .int .i64 ((k + 1 : Nat) : Int))] [ro w fp G, evs be bm fu, nodB b7 x, zB b6, cxB b3 z be] := fun b3 b6 b7 => act_right0 p c L x s6 hn0 .nil (k + 1) (k + 1) z be bm b3 b6 b7 fu G w fp (EGot be bm (evX Pm env (runD Pm env D) fn al om (.one x.nod .nil r) fu) G w fp) q3
      (act_next p c L x hn0 .nil (k + 1) (k + 1) (k + 1) dd (r.flat ++ rest) z fn al om be bm b3 b6 b7 fu G w fp _ (by simpa [Exs.flat] using hkr) q5 q3 (fun h => absurd h s7) (by omega) hC
        (fun b11 z0 k1 k2 k3 => CW_cov zcov (act_rest1 Pm p c L ks env D N hG hV hRun x hxL h6 .nil r (k + 1) dd rest z z0 fn al om be bm b3 b6 b7 b11 fu G w fp hfp hNr q6 hkr hD hC hS hnm hne hI k1 k2 k3)))
    generalize evX Pm env (runD Pm env D) fn al om (.one x.nod .nil r) fu = Z at *
    clear hV hG hRun hnm hM hO hSub hC hS hk hkr q1 q2 q3 q4 q5 q6 g1 hxn hN hNr h67
    (repeat' (first|refine zza ?_|refine zc9 ?_|refine zzb fun w hw => ?_|refine zzh fun _ => ?_|refine zzi fun _ _ => ?_|refine zzj (fun _ => ?_) fun _ => ?_))
    refine CW_seq ?_
    repeat refine zza ?_
    exact CW_cov zcov (CW_ent zent (key _ _ _))
  | two n l b r =>
    have hn : n = x.nod := hxn.symm
    subst hn
    obtain ⟨⟨q1, q2, q3, q4⟩, q7, q5, q6⟩ := hok
    have h7 : x.op = 7 := q2
    have hn0 : 0 ≤ x.n := right_n q1
    have hb0 : b = .nil := Exs.len_zero (by rw [q3]; exact if_neg s6)
    subst hb0
    have hkl : (L.map NodM.nod).drop (k + 1) = l.flat ++ (r.flat ++ rest) := by
      have := congrArg List.tail hk
      rw [List.tail_drop] at this
      rw [this]
      simp [Ex.flat, Exs.flat]
    have hkr := drop_len hkl
    have hNr : r.flat.length ≤ N := by simp only [Ex.flat, Exs.flat, List.nil_append, List.length_cons, List.length_append] at hN; omega
    have hNl : l.flat.length ≤ N := by simp only [Ex.flat, Exs.flat, List.nil_append, List.length_cons, List.length_append] at hN; omega
    have hskip := fun W (h : Rd.le G W.cell?) => eval_skip p c L hL l (k + 1) dd _ hkl q7 G W hrow h
    have hlen := congrArg List.length hkl
    simp only [List.length_drop, List.length_map, List.length_append] at hlen
    have key : ∀ b3 b6 b7 : Nat, CW Tryz.prog ⟨118, [], w, fp⟩ (QBody Tryz.prog Tryz.f171 (EGot be bm (evX Pm env (runD Pm env D) fn al om (.two x.nod l .nil r) fu) G w fp)) (cP [1, 1, 1, 1, 1] acode)
      [(1, .slice p L.length c), (3, ptrV b3), (6, ptrV b6), (7, ptrV b7), (8, .int .i64 ((k + 1 : Nat) : Int)), (9, .int .i64 ((k + 1 + l.flat.length : Nat) : Int)), (10, .int .i64 ((k + 1 + l.flat.length : Nat) : Int))] [ro w fp G, evs be bm fu, nodB b7 x, zB b6, cxB b3 z be] := fun b3 b6 b7 => act_right0 p c L x s6 hn0 .nil (k + 1) (k + 1 + l.flat.length) z be bm b3 b6 b7 fu G w fp (EGot be bm (evX Pm env (runD Pm env D) fn al om (.two x.nod l .nil r) fu) G w fp) q3
      (act_next p c L x hn0 .nil (k + 1) (k + 1 + l.flat.length) (k + 1 + l.flat.length) dd (r.flat ++ rest) z fn al om be bm b3 b6 b7 fu G w fp _ (by simpa [Exs.flat] using hkr) q5 q3 (fun h => absurd h s7) (by omega) hC
        (fun b11 z0 k1 k2 _ => act_rest2 Pm p c L ks env D N hG hV hRun x hxL h7 l .nil r (k + 1) (k + 1 + l.flat.length) dd rest (r.flat ++ rest) z z0 fn al om be bm b3 b6 b7 b11 fu G w fp hfp hNr q6 hkr hNl q7 hkl hD hC hS hnm hne hI k1 k2))
    generalize evX Pm env (runD Pm env D) fn al om (.two x.nod l .nil r) fu = Z at *
    clear hV hG hRun hnm hM hO hSub hC hS hk hkr hkl q1 q2 q3 q4 q5 q6 q7 g1 hxn hN hNr hNl h67
    generalize l.flat.length = ll at *
    (repeat' (first|refine zza ?_|refine zc9 ?_|refine zzb fun w hw => ?_|refine zzh fun _ => ?_|refine zzi fun _ _ => ?_|refine zzj (fun _ => ?_) fun _ => ?_))
    refine CW_seq ?_
    (repeat' (first|refine zza ?_|refine zc9 ?_|refine zzb fun w hw => ?_|refine zzh fun _ => ?_|refine zzi fun _ _ => ?_|refine zzj (fun _ => ?_) fun _ => ?_))
    refine WL_callV rfl rfl rfl (fun W hW => hskip W (hW.le zpk)) ?_
    repeat refine zza ?_
    exact CW_cov zcov (CW_ent zent (key _ _ _))
theorem picked_simple (Pm : Prims) (p : Option Addr) (c : Nat) (L : List NodM) (ks : List (List UInt8 × Value)) (env : Names) (D N : Nat) (hs : ∀ y ∈ L, y.op ≠ 8) :
    PartC 172 8 8 Pm p c L ks env D N := by
  intro e k dd rest z fn al om be bm fu G w fp h8 hN hok hk
  obtain ⟨g1, _⟩ := head_sub hk
  obtain ⟨x, hx, hxn⟩ := nod_at g1
  exfalso
  refine hs x (List.mem_of_getElem? hx) ?_
  have : x.op = e.head.op := by rw [← hxn]; rfl
  rcases h8 with h | h <;> rw [this, h]
theorem value_simple (Pm : Prims) (p : Option Addr) (c : Nat) (L : List NodM) (ks : List (List UInt8 × Value)) (env : Names) (D : Nat) (hG : Given Pm L) (hs : ∀ y ∈ L, y.aop ≠ 6 ∧ y.aop ≠ 7) (h8 : ∀ y ∈ L, y.op ≠ 8) : ∀ N, ValC Pm p c L ks env D N
  | 0 => fun e k dd rest z fn al om be bm fu G w fp hN => absurd e.flat_pos (by omega)
  | N + 1 => eval_value Pm p c L ks env D (N + 1) hG (acted_simple Pm p c L ks env D N hG hs (value_simple Pm p c L ks env D hG hs h8 N)) (picked_simple Pm p c L ks env D (N + 1) h8)
end Go.Proofs.YtllgkdkjcbohcaaGreatDoor
