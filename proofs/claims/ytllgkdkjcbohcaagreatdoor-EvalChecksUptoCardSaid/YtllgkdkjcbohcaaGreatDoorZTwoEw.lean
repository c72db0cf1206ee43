/-
  eval: a step; what must be without an error; the place behind an expression; numbers.
  The package each: each.Two.
-/
import Derived.Test.YtllgkdkjcbohcaaGreatDoorZGo
import Derived.Test.YtllgkdkjcbohcaaGreatDoorZEvB
import Derived.Test.YtllgkdkjcbohcaaGreatDoorZCodePlain
import Derived.Test.YtllgkdkjcbohcaaGreatDoorZArrW
namespace Go.Proofs.YtllgkdkjcbohcaaGreatDoor
open Go.RowKit
theorem eval_step (be bm : Nat) (f : Int) (hI : I64 f) (G : Rd) (w : World) (fp : List Nat) (hO : Own [evs be bm f] fp w) (hS : Rd.sub G fp w) :
    Calls Tryz.prog 93 #[.pointer (some ⟨be, 0, none⟩)] w (SGot be bm f G w fp) := by
  refine enterR (args := [_]) hS hO Tryz.func93 rfl Tryz.ntmps93 (by simp) ?_
  have hI1 := hI.1
  have hI2 := hI.2
  clear hO hS hI
  by_cases h : f ≤ 0
  · ((repeat' (first|refine zza ?_|refine zc9 ?_|refine zzb fun w hw => ?_|refine zzh fun _ => ?_|refine zzi fun _ _ => ?_|refine zzj (fun _ => ?_) fun _ => ?_)); (repeat' (refine CW_seq ?_; (repeat' (first|refine zza ?_|refine zc9 ?_|refine zzb fun w hw => ?_|refine zzh fun _ => ?_|refine zzi fun _ _ => ?_|refine zzj (fun _ => ?_) fun _ => ?_)))))
    exact .inr ⟨(), h, rfl, Rd.grow_refl _ _, hw.ent zent⟩
  · ((repeat' (first|refine zza ?_|refine zc9 ?_|refine zzb fun w hw => ?_|refine zzh fun _ => ?_|refine zzi fun _ _ => ?_|refine zzj (fun _ => ?_) fun _ => ?_)); (repeat' (refine CW_seq ?_; (repeat' (first|refine zza ?_|refine zc9 ?_|refine zzb fun w hw => ?_|refine zzh fun _ => ?_|refine zzi fun _ _ => ?_|refine zzj (fun _ => ?_) fun _ => ?_)))))
    exact .inl ⟨(), by omega, rfl, Rd.grow_refl _ _, hw.ent zent⟩
set_option maxRecDepth 100000 in
theorem must_ok (a : ArrM) (w : World) :
    Calls Tryz.prog 230 #[arrV a, .nilIface] w fun e w' => e = .returned (arrV a) ∧ Below w.heap.size w w' := by
  refine enter (args := [_, _]) (m := []) (F := []) Tryz.func230 rfl Tryz.ntmps230 (by simp) rfl ?_
  ((repeat' (first|refine zza ?_|refine zc9 ?_|refine zzb fun w hw => ?_|refine zzh fun _ => ?_|refine zzi fun _ _ => ?_|refine zzj (fun _ => ?_) fun _ => ?_)); (repeat' (refine CW_seq ?_; (repeat' (first|refine zza ?_|refine zc9 ?_|refine zzb fun w hw => ?_|refine zzh fun _ => ?_|refine zzi fun _ _ => ?_|refine zzj (fun _ => ?_) fun _ => ?_)))))
  exact ⟨rfl, hw.below⟩
set_option maxRecDepth 100000 in
theorem must_bad (a : ArrM) (c : Int) (w : World) :
    Calls Tryz.prog 230 #[arrV a, .iface 49 (.int .i64 c)] w fun e w' => e = .panicked (errE c) ∧ Below w.heap.size w w' := by
  refine enter (args := [_, _]) (m := []) (F := []) Tryz.func230 rfl Tryz.ntmps230 (by simp) rfl ?_
  ((repeat' (first|refine zza ?_|refine zc9 ?_|refine zzb fun w hw => ?_|refine zzh fun _ => ?_|refine zzi fun _ _ => ?_|refine zzj (fun _ => ?_) fun _ => ?_)); (repeat' (refine CW_seq ?_; (repeat' (first|refine zza ?_|refine zc9 ?_|refine zzb fun w hw => ?_|refine zzh fun _ => ?_|refine zzi fun _ _ => ?_|refine zzj (fun _ => ?_) fun _ => ?_)))))
  exact ⟨rfl, hw.below⟩
theorem head_sub {l : List Nod} {k : Nat} {e : Ex} {r : List Nod} (h : l.drop k = e.flat ++ r) : l[k]? = some e.head ∧ l.drop (k + 1) = e.subs.flatMap Ex.flat ++ r := by
  rw [e.flat_subs] at h
  constructor
  · have := congrArg List.head? h
    rw [List.head?_drop] at this
    rw [this]; rfl
  · have := congrArg List.tail h
    rw [List.tail_drop] at this
    rw [this]; rfl
theorem nod_at {L : List NodM} {k : Nat} {n : Nod} (h : (L.map NodM.nod)[k]? = some n) : ∃ x, L[k]? = some x ∧ x.nod = n := by
  rw [List.getElem?_map] at h
  cases hx : L[k]? with
  | none => rw [hx] at h; cases h
  | some x => rw [hx] at h; exact ⟨x, rfl, by simpa using h⟩
theorem flat_count (es : List Ex) : es.length ≤ (es.flatMap Ex.flat).length := by
  induction es with
  | nil => simp
  | cons e r ih =>
    have := e.flat_pos
    rw [List.flatMap_cons, List.length_append, List.length_cons]
    omega
set_option maxHeartbeats 4000000 in
set_option maxRecDepth 100000 in
theorem eval_skip (p : Option Addr) (c : Nat) (L : List NodM) (hL : L.length ≤ 400) (e : Ex) (k d : Nat) (rest : List Nod) (hk : (L.map NodM.nod).drop k = e.flat ++ rest) (hok : e.ok d) (G : Rd) (w : World) (hR : Row nodE 7 G p c L) (hS : Rd.le G w.cell?) :
    Calls Tryz.prog 228 #[.slice p L.length c, .int .i64 (k : Int)] w fun r w' => r = .returned (.int .i64 ((k + e.flat.length : Nat) : Int)) ∧ Below w.heap.size w w' := by
  refine enterR (args := [_, _]) (m := []) (F := []) hS.sub rfl Tryz.func228 rfl Tryz.ntmps228 (by simp) ?_
  clear hS
  ((repeat' (first|refine zza ?_|refine zc9 ?_|refine zzb fun w hw => ?_|refine zzh fun _ => ?_|refine zzi fun _ _ => ?_|refine zzj (fun _ => ?_) fun _ => ?_)); (repeat' (refine CW_seq ?_; (repeat' (first|refine zza ?_|refine zc9 ?_|refine zzb fun w hw => ?_|refine zzh fun _ => ?_|refine zzi fun _ _ => ?_|refine zzj (fun _ => ?_) fun _ => ?_)))))
  refine CW_loopK [(0,_)] zcov (fun x : Nat × List Ex => [(1, .int .i64 (x.1 : Int)), (5, .int .i64 (x.2.length : Int))]) (fun _ => [ro w [] G]) (fun x => (L.map NodM.nod).drop x.1 = x.2.flatMap Ex.flat ++ rest ∧ (∀ s ∈ x.2, ∃ d', s.ok d') ∧ x.1 + (x.2.flatMap Ex.flat).length = k + e.flat.length ∧ x.1 ≤ L.length) (fun x => (x.2.flatMap Ex.flat).length) (k, [e]) ⟨by simpa using hk, by simpa using ⟨d, hok⟩, by simp, ?_⟩ zcov zent ?_
  · have := congrArg List.length hk
    simp only [List.length_drop, List.length_append, List.length_map] at this
    have := e.flat_pos
    omega
  clear hk hok
  rintro ⟨i, es⟩ ⟨h1, h2, h3, h4⟩
  dsimp only at h1 h2 h3 h4 ⊢
  have hlen := congrArg List.length h1
  simp only [List.length_drop, List.length_append, List.length_map] at hlen
  have hcnt := flat_count es
  cases es with
  | nil =>
    simp only [List.flatMap_nil, List.length_nil, Nat.add_zero] at h3 hlen hcnt
    clear h1 h2
    subst h3
    ((repeat' (first|refine zza ?_|refine zc9 ?_|refine zzb fun w hw => ?_|refine zzh fun _ => ?_|refine zzi fun _ _ => ?_|refine zzj (fun _ => ?_) fun _ => ?_)); (repeat' (refine CW_seq ?_; (repeat' (first|refine zza ?_|refine zc9 ?_|refine zzb fun w hw => ?_|refine zzh fun _ => ?_|refine zzi fun _ _ => ?_|refine zzj (fun _ => ?_) fun _ => ?_)))))
    exact ⟨rfl, hw.below⟩
  | cons s es =>
    obtain ⟨d', hs⟩ := h2 s (by simp)
    rw [List.flatMap_cons, List.append_assoc] at h1
    obtain ⟨g1, g2⟩ := head_sub h1
    obtain ⟨x, hx, hxn⟩ := nod_at g1
    obtain ⟨n1, n2, n3, n4, n5⟩ := Ex.subs_n hs
    have hlt : i < L.length := (List.getElem?_eq_some_iff.1 hx).1
    have hsub := fun t ht => Ex.subs_ok hs t ht
    have hfl : s.flat.length = (s.subs.flatMap Ex.flat).length + 1 := by rw [s.flat_subs]; simp
    have hsc := flat_count s.subs
    rw [← hxn] at n1 n2 n3 n4 n5
    have e1 : x.nod.op = x.op := rfl
    have e2 : x.nod.aop = x.aop := rfl
    have e3 : x.nod.n = x.n := rfl
    unfold cntS at n5
    rw [e1, e2, e3] at n5
    rw [e1] at n2 n3
    rw [e3] at n1
    rw [e1, e2] at n4
    rw [List.flatMap_cons, List.length_append] at h3 hlen hcnt
    have hl1 : (s :: es).length = es.length + 1 := List.length_cons
    rw [List.length_cons] at hcnt
    have hnext : (L.map NodM.nod).drop (i + 1) = (s.subs ++ es).flatMap Ex.flat ++ rest := by rw [g2, List.flatMap_append, List.append_assoc]
    have hnok : ∀ t ∈ s.subs ++ es, ∃ d', t.ok d' := fun t ht => by
      rcases List.mem_append.1 ht with ht | ht
      · exact hsub t ht
      · exact h2 t (List.mem_cons_of_mem _ ht)
    have hnl : ((s.subs ++ es).flatMap Ex.flat).length = (s.subs.flatMap Ex.flat).length + (es.flatMap Ex.flat).length := by rw [List.flatMap_append, List.length_append]
    have hnc : (s.subs ++ es).length = s.subs.length + es.length := List.length_append
    generalize (s.subs.flatMap Ex.flat).length = A1 at *
    generalize hA2 : (es.flatMap Ex.flat).length = A2 at *
    clear h1 g1 g2 h2 hsub e1 e2 e3 hxn hs
    generalize hnew : s.subs ++ es = new at *
    generalize s.subs.length = sl at *
    clear hnew
    have hN : x.n ≤ 400 ∨ (x.op ≠ 8 ∧ x.aop ≠ 6) := by
      by_cases h8 : x.op = 8
      · left; rw [if_neg (by omega), if_neg (by omega), if_pos h8] at n5; split at n5 <;> omega
      · by_cases h6 : x.aop = 6
        · left; rw [if_pos h6] at n5; split at n5 <;> (try split at n5) <;> (try split at n5) <;> omega
        · right; exact ⟨h8, h6⟩
    have c6 : x.op = 6 ∨ x.op = 7 ∨ x.op = 8 ∨ (x.op ≠ 6 ∧ x.op ≠ 7 ∧ x.op ≠ 8) := by omega
    rcases c6 with h6 | h6 | h6 | h6 <;> by_cases a6 : x.aop = 6
    all_goals
      simp only [h6, a6, if_true, if_false, Int.reduceEq] at n5
      ((repeat' (first|refine zza ?_|refine zc9 ?_|refine zzb fun w hw => ?_|refine zzh fun _ => ?_|refine zzi fun _ _ => ?_|refine zzj (fun _ => ?_) fun _ => ?_)); (repeat' (refine CW_seq ?_; (repeat' (first|refine zza ?_|refine zc9 ?_|refine zzb fun w hw => ?_|refine zzh fun _ => ?_|refine zzi fun _ _ => ?_|refine zzj (fun _ => ?_) fun _ => ?_)))))
      exact EX_loop' (i + 1, new) ⟨(by dsimp only; exact zcov), zent, by dsimp only; rw [hnl, List.flatMap_cons, List.length_append, hA2]; omega, hnext, hnok, by dsimp only; omega, by dsimp only; omega⟩
end Go.Proofs.YtllgkdkjcbohcaaGreatDoor
namespace Go.Proofs.YtllgkdkjcbohcaaGreatDoor
open Go.RowKit
theorem cell_plain (a : ArrM) (n : Nat) (hn : n ≤ a.data.xs.length) (h1 : a.shape.xs = [] → n ≤ 1) : CellOf 252 a n := fun b i G W hi hS hR hx => by
  have h := fit_plain1 a b i (by omega) G W hS.sub hR hx
  have e : cellA a.arr i = a.data.xs.getD i 0 := by
    unfold cellA
    by_cases h0 : a.arr.shape = []
    · rw [if_pos h0]
      have := h1 h0
      rw [show i = 0 by omega]
      rfl
    · rw [if_neg h0]
      rfl
  rw [e]
  exact h
theorem cell_single (a : ArrM) (n : Nat) (h0 : a.shape.xs = []) (h1 : 0 < a.data.xs.length) : CellOf 254 a n := fun b i G W hi hS hR hx => by
  have h := fit_single1 a b (i : Int) h1 G W hS.sub hR hx
  have e : cellA a.arr i = a.data.xs.getD 0 0 := by
    unfold cellA
    exact if_pos h0
  rw [e]
  exact h
theorem nil_len {α : Type} {l : List α} (h : l.length = 0) : l = [] := List.eq_nil_of_length_eq_zero h
theorem fit_ok (a b : ArrM) (ga : a.arr.Good) (gb : b.arr.Good) (hz : fitE a.arr b.arr = 0) : ∃ (f1 f2 : FuncId) (s : SlV Int), FnT Tryz.prog f1 ∧ FnT Tryz.prog f2 ∧ (s = a.shape ∨ s = b.shape) ∧ s.xs = fitS a.arr b.arr ∧ CellOf f1 a (fitN a.arr b.arr) ∧ CellOf f2 b (fitN a.arr b.arr) ∧
    ∀ G w, Rd.le G w.cell? → ArrG G a → ArrG G b → Calls Tryz.prog 226 #[arrV a, arrV b] w fun e w' => ∃ z : Nat × Nat, True ∧ e = .returned (.tuple #[.slice s.p s.xs.length s.c, .int .i64 (fitN a.arr b.arr : Int), .func (.func f1) #[] #[ptrV z.1], .func (.func f2) #[] #[ptrV z.2], .nilIface]) ∧ Holds w [] [boxB z.1 a, boxB z.2 b] w' := by
  unfold fitE at hz
  by_cases h0 : a.arr.shape = []
  · have e1 : fitN a.arr b.arr = b.data.xs.length := by unfold fitN; rw [if_pos h0]; rfl
    have e2 : fitS a.arr b.arr = b.shape.xs := by unfold fitS; rw [if_pos h0]; rfl
    have h1 : a.data.xs.length = 1 := ga.one h0
    rw [e1, e2]
    refine ⟨_, _, b.shape, inferInstance, inferInstance, .inr rfl, rfl, cell_single a _ h0 (by omega), cell_plain b _ (Nat.le_refl _) fun h => ?_, fun G w hS _ _ => fit_one a b G w hS (by show a.arr.shape.length = 0; rw [h0]; rfl)⟩
    have := gb.one h
    exact Nat.le_of_eq this
  · rw [if_neg h0] at hz
    have e1 : fitN a.arr b.arr = a.data.xs.length := by unfold fitN; rw [if_neg h0]; rfl
    have e2 : fitS a.arr b.arr = a.shape.xs := by unfold fitS; rw [if_neg h0]; rfl
    rw [e1, e2]
    by_cases h1 : b.arr.shape = []
    · have h2 : b.data.xs.length = 1 := gb.one h1
      exact ⟨_, _, a.shape, inferInstance, inferInstance, .inl rfl, rfl, cell_plain a _ (Nat.le_refl _) fun h => absurd h h0, cell_single b _ h1 (by omega), fun G w hS _ _ => fit_two a b G w hS (fun h => h0 (nil_len h)) (by show b.arr.shape.length = 0; rw [h1]; rfl)⟩
    · rw [if_neg h1] at hz
      have h3 : a.arr.shape = b.arr.shape := by
        by_cases h2 : a.arr.shape.length ≠ b.arr.shape.length
        · rw [if_pos h2] at hz; cases hz
        · rw [if_neg h2] at hz
          by_cases h3 : a.arr.shape ≠ b.arr.shape
          · rw [if_pos h3] at hz; cases hz
          · exact Decidable.not_not.1 h3
      have h4 : a.data.xs.length = b.data.xs.length := by
        have k1 := ga.count
        have k2 := gb.count
        rw [h3, k2] at k1
        have : ((b.arr.data.length : Nat) : Int) = (a.arr.data.length : Nat) := congrArg Prod.fst k1
        show a.arr.data.length = b.arr.data.length
        omega
      exact ⟨_, _, a.shape, inferInstance, inferInstance, .inl rfl, rfl, cell_plain a _ (Nat.le_refl _) fun h => absurd h h0, cell_plain b _ (by omega) fun h => absurd h h1, fun G w hS ha hb => fit_both a b G w hS ha hb (fun h => h1 (nil_len h)) h3⟩
theorem fit_bad (a b : ArrM) (hz : fitE a.arr b.arr ≠ 0) (G : Rd) (w : World) (hS : Rd.le G w.cell?) (ha : ArrG G a) (hb : ArrG G b) : Calls Tryz.prog 226 #[arrV a, arrV b] w fun e w' => e = .returned (.tuple #[.slice none 0 0, .int .i64 0, .nilFunc, .nilFunc, .iface 49 (.int .i64 (fitE a.arr b.arr))]) ∧ Below w.heap.size w w' := by
  unfold fitE at hz ⊢
  by_cases h0 : a.arr.shape = []
  · rw [if_pos h0] at hz
    exact absurd rfl hz
  · rw [if_neg h0] at hz ⊢
    by_cases h1 : b.arr.shape = []
    · rw [if_pos h1] at hz
      exact absurd rfl hz
    · rw [if_neg h1] at hz ⊢
      by_cases h2 : a.arr.shape.length ≠ b.arr.shape.length
      · rw [if_pos h2]
        exact fit_rank a b G w hS (fun h => h0 (nil_len h)) (fun h => h1 (nil_len h)) h2
      · rw [if_neg h2] at hz ⊢
        by_cases h3 : a.arr.shape ≠ b.arr.shape
        · rw [if_pos h3]
          exact fit_length a b G w hS ha hb (fun h => h1 (nil_len h)) (Decidable.not_not.1 h2) h3
        · rw [if_neg h3] at hz
          exact absurd rfl hz
end Go.Proofs.YtllgkdkjcbohcaaGreatDoor
