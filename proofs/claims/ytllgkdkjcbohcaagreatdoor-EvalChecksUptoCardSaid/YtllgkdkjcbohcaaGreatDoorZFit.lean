/-
  The package each: how the cells of two arrays fit.
-/
import Derived.Test.YtllgkdkjcbohcaaGreatDoorZGo
import Derived.Test.YtllgkdkjcbohcaaGreatDoorZEach
import Derived.Test.YtllgkdkjcbohcaaGreatDoorZIntsEq
namespace Go.Proofs.YtllgkdkjcbohcaaGreatDoor
open Go.RowKit
abbrev boxA (G : Rd) (b : Nat) (x : ArrM) : Prop := Row arrE 3 G (some ⟨b, 0, none⟩) 1 [x]
abbrev boxV (G : Rd) (b : Nat) (v : Value) : Prop := Row (fun v : Value => [v]) 1 G (some ⟨b, 0, none⟩) 1 [v]
abbrev ptrV (b : Nat) : Value := .pointer (some ⟨b, 0, none⟩)
set_option maxHeartbeats 8000000 in
set_option maxRecDepth 100000 in
theorem fit_plain1 (x : ArrM) (b i : Nat) (hi : i < x.data.xs.length) (G : Rd) (W : World) (hS : Rd.sub G [] W) (hR : boxA G b x) (hx : ArrG G x) :
    Calls Tryz.prog 252 #[.int .i64 (i : Int), ptrV b] W fun e w' => e = .returned (.int .i64 (x.data.xs.getD i 0)) ∧ Below W.heap.size W w' := by
  refine enterR (args := [_, _]) (m := []) (F := []) hS rfl Tryz.func252 rfl Tryz.ntmps252 (by simp) ?_
  clear hS
  have hd := hx.data
  clear hx
  ((repeat' (first|refine zza ?_|refine zc9 ?_|refine zzb fun w hw => ?_|refine zzh fun _ => ?_|refine zzi fun _ _ => ?_|refine zu1 ?_|refine zu2 ?_|refine zu3 ?_|refine zu4 fun _ => ?_|refine zzj (fun _ => ?_) fun _ => ?_)); (repeat' (refine CW_seq ?_; (repeat' (first|refine zza ?_|refine zc9 ?_|refine zzb fun w hw => ?_|refine zzh fun _ => ?_|refine zzi fun _ _ => ?_|refine zu1 ?_|refine zu2 ?_|refine zu3 ?_|refine zu4 fun _ => ?_|refine zzj (fun _ => ?_) fun _ => ?_)))))
  exact ⟨rfl, hw.below⟩
set_option maxHeartbeats 8000000 in
set_option maxRecDepth 100000 in
theorem fit_single1 (x : ArrM) (b : Nat) (i : Int) (hi : 0 < x.data.xs.length) (G : Rd) (W : World) (hS : Rd.sub G [] W) (hR : boxA G b x) (hx : ArrG G x) :
    Calls Tryz.prog 254 #[.int .i64 i, ptrV b] W fun e w' => e = .returned (.int .i64 (x.data.xs.getD 0 0)) ∧ Below W.heap.size W w' := by
  refine enterR (args := [_, _]) (m := []) (F := []) hS rfl Tryz.func254 rfl Tryz.ntmps254 (by simp) ?_
  clear hS
  have hd := hx.data
  clear hx
  ((repeat' (first|refine zza ?_|refine zc9 ?_|refine zzb fun w hw => ?_|refine zzh fun _ => ?_|refine zzi fun _ _ => ?_|refine zu1 ?_|refine zu2 ?_|refine zu3 ?_|refine zu4 fun _ => ?_|refine zzj (fun _ => ?_) fun _ => ?_)); (repeat' (refine CW_seq ?_; (repeat' (first|refine zza ?_|refine zc9 ?_|refine zzb fun w hw => ?_|refine zzh fun _ => ?_|refine zzi fun _ _ => ?_|refine zu1 ?_|refine zu2 ?_|refine zu3 ?_|refine zu4 fun _ => ?_|refine zzj (fun _ => ?_) fun _ => ?_)))))
  exact ⟨rfl, hw.below⟩
abbrev boxB (b : Nat) (x : ArrM) : HP := blk b 43 (arrE x).toArray
set_option maxHeartbeats 8000000 in
set_option maxRecDepth 100000 in
theorem fit_plain (x : ArrM) (w : World) :
    Calls Tryz.prog 251 #[arrV x] w fun e w' => ∃ b : Nat, True ∧ e = .returned (.func (.func 252) #[] #[ptrV b]) ∧ Holds w [] [boxB b x] w' := by
  refine enter (args := [_]) (m := []) (F := []) Tryz.func251 rfl Tryz.ntmps251 (by simp) rfl ?_
  ((repeat' (first|refine zza ?_|refine zc9 ?_|refine zzb fun w hw => ?_|refine zzh fun _ => ?_|refine zzi fun _ _ => ?_|refine zu1 ?_|refine zu2 ?_|refine zu3 ?_|refine zu4 fun _ => ?_|refine zzj (fun _ => ?_) fun _ => ?_)); (repeat' (refine CW_seq ?_; (repeat' (first|refine zza ?_|refine zc9 ?_|refine zzb fun w hw => ?_|refine zzh fun _ => ?_|refine zzi fun _ _ => ?_|refine zu1 ?_|refine zu2 ?_|refine zu3 ?_|refine zu4 fun _ => ?_|refine zzj (fun _ => ?_) fun _ => ?_)))))
  exact ⟨_, trivial, rfl, hw⟩
set_option maxHeartbeats 8000000 in
set_option maxRecDepth 100000 in
theorem fit_single (x : ArrM) (w : World) :
    Calls Tryz.prog 253 #[arrV x] w fun e w' => ∃ b : Nat, True ∧ e = .returned (.func (.func 254) #[] #[ptrV b]) ∧ Holds w [] [boxB b x] w' := by
  refine enter (args := [_]) (m := []) (F := []) Tryz.func253 rfl Tryz.ntmps253 (by simp) rfl ?_
  ((repeat' (first|refine zza ?_|refine zc9 ?_|refine zzb fun w hw => ?_|refine zzh fun _ => ?_|refine zzi fun _ _ => ?_|refine zu1 ?_|refine zu2 ?_|refine zu3 ?_|refine zu4 fun _ => ?_|refine zzj (fun _ => ?_) fun _ => ?_)); (repeat' (refine CW_seq ?_; (repeat' (first|refine zza ?_|refine zc9 ?_|refine zzb fun w hw => ?_|refine zzh fun _ => ?_|refine zzi fun _ _ => ?_|refine zu1 ?_|refine zu2 ?_|refine zu3 ?_|refine zu4 fun _ => ?_|refine zzj (fun _ => ?_) fun _ => ?_)))))
  exact ⟨_, trivial, rfl, hw⟩
/-! ## each.fit -/
section
variable {P : Program} {K : Cx} {ρ : Env} {m m0 : List HP} {ty : TypeId} {pos : String} {aft : Array Edge} {y : Operand} {ops : Array Oper} {d i : Nat} {next : Env → List HP → Prop}
/-- a function value that makes things of its own -/
theorem Stp_callXY {f : FuncId} [S : FnT P f] {ops' : List Operand} {ats : Array TypeId} {vs cap : List Value} (hy : opv ρ y = some (.func (.func f) #[] cap.toArray)) (ho : ops[i]? = some ⟨some d, .call ⟨.value y, ops'.toArray, ats⟩, ty, pos, aft, none⟩) (hx : opvs ρ ops' = some vs) (hd : Nat.blt d K.N = true) {X : Type} {V : X → Value} {M : X → List HP} {I : X → Prop}
    (hc : ∀ w, Calls P f (vs ++ cap).toArray w fun e w' => ∃ x, I x ∧ e = .returned (V x) ∧ Holds w [] (M x) w')
    (k : ∀ x, I x → next ((d, V x) :: ρ) (M x ++ m)) : Stp P K ops m0 i ρ m next := by
  refine ⟨d, _, ty, pos, aft, ho, blt_lt hd, { x : X // I x }, fun x => V x.1, fun x => M x.1 ++ m, fun r a w _ hf hm => ?_, fun x => k x.1 x.2⟩
  rw [run_enterY hf hy hx]
  refine (hc w).mono fun e w' hr => ?_
  obtain ⟨z, hz, rfl, hh⟩ := hr
  refine .inl ⟨⟨z, hz⟩, rfl, ?_⟩
  have := hm.add hh
  show Holds K.w0 K.F ((M z ++ m) ++ r) w'
  rw [List.append_assoc]
  exact this
end
section
variable {P : Program} {K : Cx} {ρ : Env} {m : List HP}
theorem results_tmp5' {fn : Func} {t u x y z : Tmp} (h : fn.results = #[.tmp t, .tmp u, .tmp x, .tmp y, .tmp z]) (tmps : Array Value) (P : Program) (w : World) :
    (results fn tmps).run P w = .ok (.tuple #[tmps.getD t undef, tmps.getD u undef, tmps.getD x undef, tmps.getD y undef, tmps.getD z undef]) w := by simp [results, h, go_sem]
theorem EX_ret5 {fn : Func} {R : Ending → World → Prop} {t u x y z : Nat} {v1 v2 v3 v4 v5 : Value} (hD : K.D = []) (hr : fn.results = #[.tmp t, .tmp u, .tmp x, .tmp y, .tmp z]) (ht : ρ.find t = some v1) (hu : ρ.find u = some v2) (hx : ρ.find x = some v3) (hy : ρ.find y = some v4) (hz : ρ.find z = some v5) (h : ∀ w, Holds K.w0 K.F m w → R (.returned (.tuple #[v1, v2, v3, v4, v5])) w) : EX K (QBody P fn R) .ret ρ m := ⟨fun a w hf hm =>
  ⟨hf.defs.trans hD, _, results_tmp5' hr a.tmps P w, by rw [hf.get t _ ht, hf.get u _ hu, hf.get x _ hx, hf.get y _ hy, hf.get z _ hz]; exact h w hm⟩⟩
end
set_option maxHeartbeats 8000000 in
set_option maxRecDepth 100000 in
theorem fit_one (a b : ArrM) (G : Rd) (w : World) (hS : Rd.le G w.cell?) (h0 : a.shape.xs.length = 0) :
    Calls Tryz.prog 226 #[arrV a, arrV b] w fun e w' => ∃ z : Nat × Nat, True ∧ e = .returned (.tuple #[.slice b.shape.p b.shape.xs.length b.shape.c, .int .i64 (b.data.xs.length : Int), .func (.func 254) #[] #[ptrV z.1], .func (.func 252) #[] #[ptrV z.2], .nilIface]) ∧ Holds w [] [boxB z.1 a, boxB z.2 b] w' := by
  refine enterR (args := [_, _]) (m := []) (F := []) hS.sub rfl Tryz.func226 rfl Tryz.ntmps226 (by simp) ?_
  clear hS
  (repeat' ((fail_if_success refine zc8 ?_); (first|refine zza ?_|refine zzb fun w hw => ?_|refine zzh fun _ => ?_|refine zzi fun _ _ => ?_|refine zzj (fun _ => ?_) fun _ => ?_)))
  refine CW_par 12 [0, 1, 2, 3, 4, 5, 6, 8, 9] [7, 10, 11] _ (pm := []) Ent.refl (by kernel_rfl) (by decide +kernel) ?_
  (refine WP_op rfl rfl rfl zyi ?_)
  (refine WP_op rfl rfl rfl zyi ?_)
  (refine WP_op rfl rfl rfl zyi ?_)
  (refine WP_op rfl rfl rfl zyi ?_)
  (refine WP_op rfl rfl rfl zyi ?_)
  (refine WP_op rfl rfl rfl zyi ?_)
  (refine WP_op rfl rfl rfl zyi ?_)
  (refine WP_op rfl rfl rfl zyi ?_)
  (refine WP_op rfl rfl rfl zyi ?_)
  refine WP_par (fun ρ m => ∃ z : Nat × Nat, (ρ.find 4 = some (.slice b.shape.p b.shape.xs.length b.shape.c) ∧ ρ.find 20 = some (.int .i64 (b.data.xs.length : Int)) ∧ ρ.find 23 = some (.func (.func 254) #[] #[ptrV z.1]) ∧ ρ.find 26 = some (.func (.func 252) #[] #[ptrV z.2])) ∧ m = [boxB z.2 b] ++ ([boxB z.1 a] ++ [])) (m1 := []) Ent.refl (by decide +kernel) ?_ ?_
  · rintro ρ m ⟨z, ⟨f1, f2, f3, f4⟩, rfl⟩
    refine WL_cov (ρ' := [(4, .slice b.shape.p b.shape.xs.length b.shape.c), (20, .int .i64 (b.data.xs.length : Int)), (23, .func (.func 254) #[] #[ptrV z.1]), (26, .func (.func 252) #[] #[ptrV z.2])]) (Cov.cons f1 rfl (Cov.cons f2 rfl (Cov.cons f3 rfl (Cov.cons f4 rfl Cov.nil)))) ?_
    clear f1 f2 f3 f4 ρ
    ((repeat' (first|refine zza ?_|refine zc9 ?_|refine zzb fun w hw => ?_|refine zzh fun _ => ?_|refine zzi fun _ _ => ?_|refine zu1 ?_|refine zu2 ?_|refine zu3 ?_|refine zu4 fun _ => ?_|refine zzj (fun _ => ?_) fun _ => ?_)); (repeat' (refine CW_seq ?_; (repeat' (first|refine zza ?_|refine zc9 ?_|refine zzb fun w hw => ?_|refine zzh fun _ => ?_|refine zzi fun _ _ => ?_|refine zu1 ?_|refine zu2 ?_|refine zu3 ?_|refine zu4 fun _ => ?_|refine zzj (fun _ => ?_) fun _ => ?_)))))
    refine EX_ret5 rfl rfl rfl rfl rfl rfl rfl fun w' hw => ?_
    exact ⟨z, trivial, rfl, hw.ent (Ent.cons (.there .here) (Ent.cons .here Ent.nil))⟩
  · refine Pr_one 7 (by decide +kernel) ?_
    refine Stp_callXY (cap := []) rfl rfl rfl rfl (fun W => fit_single a W) ?_
    rintro z1 _
    refine Pr_one 10 (by decide +kernel) ?_
    refine Stp_callXY (cap := []) rfl rfl rfl rfl (fun W => fit_plain b W) ?_
    rintro z2 _
    refine Pr_one 11 (by decide +kernel) ?_
    refine Stp_op rfl rfl (y_assign rfl) ?_
    exact Pr_end (by decide +kernel) ⟨(z1, z2), ⟨rfl, rfl, rfl, rfl⟩, rfl⟩
set_option maxHeartbeats 8000000 in
set_option maxRecDepth 100000 in
theorem fit_two (a b : ArrM) (G : Rd) (w : World) (hS : Rd.le G w.cell?) (h0 : a.shape.xs.length ≠ 0) (h1 : b.shape.xs.length = 0) :
    Calls Tryz.prog 226 #[arrV a, arrV b] w fun e w' => ∃ z : Nat × Nat, True ∧ e = .returned (.tuple #[.slice a.shape.p a.shape.xs.length a.shape.c, .int .i64 (a.data.xs.length : Int), .func (.func 252) #[] #[ptrV z.1], .func (.func 254) #[] #[ptrV z.2], .nilIface]) ∧ Holds w [] [boxB z.1 a, boxB z.2 b] w' := by
  refine enterR (args := [_, _]) (m := []) (F := []) hS.sub rfl Tryz.func226 rfl Tryz.ntmps226 (by simp) ?_
  clear hS
  (repeat' ((fail_if_success refine zc8 ?_); (first|refine zza ?_|refine zzb fun w hw => ?_|refine zzh fun _ => ?_|refine zzi fun _ _ => ?_|refine zzj (fun _ => ?_) fun _ => ?_)))
  refine CW_par 12 [0, 1, 2, 3, 4, 5, 6, 8, 9] [7, 10, 11] _ (pm := []) Ent.refl (by kernel_rfl) (by decide +kernel) ?_
  (refine WP_op rfl rfl rfl zyi ?_)
  (refine WP_op rfl rfl rfl zyi ?_)
  (refine WP_op rfl rfl rfl zyi ?_)
  (refine WP_op rfl rfl rfl zyi ?_)
  (refine WP_op rfl rfl rfl zyi ?_)
  (refine WP_op rfl rfl rfl zyi ?_)
  (refine WP_op rfl rfl rfl zyi ?_)
  (refine WP_op rfl rfl rfl zyi ?_)
  (refine WP_op rfl rfl rfl zyi ?_)
  refine WP_par (fun ρ m => ∃ z : Nat × Nat, (ρ.find 4 = some (.slice a.shape.p a.shape.xs.length a.shape.c) ∧ ρ.find 36 = some (.int .i64 (a.data.xs.length : Int)) ∧ ρ.find 39 = some (.func (.func 252) #[] #[ptrV z.1]) ∧ ρ.find 42 = some (.func (.func 254) #[] #[ptrV z.2])) ∧ m = [boxB z.2 b] ++ ([boxB z.1 a] ++ [])) (m1 := []) Ent.refl (by decide +kernel) ?_ ?_
  · rintro ρ m ⟨z, ⟨f1, f2, f3, f4⟩, rfl⟩
    refine WL_cov (ρ' := [(4, .slice a.shape.p a.shape.xs.length a.shape.c), (36, .int .i64 (a.data.xs.length : Int)), (39, .func (.func 252) #[] #[ptrV z.1]), (42, .func (.func 254) #[] #[ptrV z.2])]) (Cov.cons f1 rfl (Cov.cons f2 rfl (Cov.cons f3 rfl (Cov.cons f4 rfl Cov.nil)))) ?_
    clear f1 f2 f3 f4 ρ
    ((repeat' (first|refine zza ?_|refine zc9 ?_|refine zzb fun w hw => ?_|refine zzh fun _ => ?_|refine zzi fun _ _ => ?_|refine zu1 ?_|refine zu2 ?_|refine zu3 ?_|refine zu4 fun _ => ?_|refine zzj (fun _ => ?_) fun _ => ?_)); (repeat' (refine CW_seq ?_; (repeat' (first|refine zza ?_|refine zc9 ?_|refine zzb fun w hw => ?_|refine zzh fun _ => ?_|refine zzi fun _ _ => ?_|refine zu1 ?_|refine zu2 ?_|refine zu3 ?_|refine zu4 fun _ => ?_|refine zzj (fun _ => ?_) fun _ => ?_)))))
    refine EX_ret5 rfl rfl rfl rfl rfl rfl rfl fun w' hw => ?_
    exact ⟨z, trivial, rfl, hw.ent (Ent.cons (.there .here) (Ent.cons .here Ent.nil))⟩
  · refine Pr_one 7 (by decide +kernel) ?_
    refine Stp_callXY (cap := []) rfl rfl rfl rfl (fun W => fit_plain a W) ?_
    rintro z1 _
    refine Pr_one 10 (by decide +kernel) ?_
    refine Stp_callXY (cap := []) rfl rfl rfl rfl (fun W => fit_single b W) ?_
    rintro z2 _
    refine Pr_one 11 (by decide +kernel) ?_
    refine Stp_op rfl rfl (y_assign rfl) ?_
    exact Pr_end (by decide +kernel) ⟨(z1, z2), ⟨rfl, rfl, rfl, rfl⟩, rfl⟩
set_option maxHeartbeats 8000000 in
set_option maxRecDepth 100000 in
theorem fit_both (a b : ArrM) (G : Rd) (w : World) (hS : Rd.le G w.cell?) (ha : ArrG G a) (hb : ArrG G b) (h1 : b.shape.xs.length ≠ 0) (h2 : a.shape.xs = b.shape.xs) :
    Calls Tryz.prog 226 #[arrV a, arrV b] w fun e w' => ∃ z : Nat × Nat, True ∧ e = .returned (.tuple #[.slice a.shape.p a.shape.xs.length a.shape.c, .int .i64 (a.data.xs.length : Int), .func (.func 252) #[] #[ptrV z.1], .func (.func 252) #[] #[ptrV z.2], .nilIface]) ∧ Holds w [] [boxB z.1 a, boxB z.2 b] w' := by
  refine enterR (args := [_, _]) (m := []) (F := []) hS.sub rfl Tryz.func226 rfl Tryz.ntmps226 (by simp) ?_
  clear hS
  have h3 : a.shape.xs.length = b.shape.xs.length := by rw [h2]
  (repeat' ((fail_if_success refine zc8 ?_); (first|refine zza ?_|refine zzb fun w hw => ?_|refine zzh fun _ => ?_|refine zzi fun _ _ => ?_|refine zzj (fun _ => ?_) fun _ => ?_)))
  refine WL_callV rfl rfl rfl (fun W hW => ints_Equal _ _ _ _ _ _ G W ha.shape hb.shape (hW.le zpk)) ?_
  rw [decide_eq_true h2]
  (repeat' ((fail_if_success refine zc8 ?_); (first|refine zza ?_|refine zzb fun w hw => ?_|refine zzh fun _ => ?_|refine zzi fun _ _ => ?_|refine zzj (fun _ => ?_) fun _ => ?_)))
  refine CW_par 12 [0, 1, 2, 3, 4, 5, 6, 8, 9] [7, 10, 11] _ (pm := []) Ent.refl (by kernel_rfl) (by decide +kernel) ?_
  (refine WP_op rfl rfl rfl zyi ?_)
  (refine WP_op rfl rfl rfl zyi ?_)
  (refine WP_op rfl rfl rfl zyi ?_)
  (refine WP_op rfl rfl rfl zyi ?_)
  (refine WP_op rfl rfl rfl zyi ?_)
  (refine WP_op rfl rfl rfl zyi ?_)
  (refine WP_op rfl rfl rfl zyi ?_)
  (refine WP_op rfl rfl rfl zyi ?_)
  (refine WP_op rfl rfl rfl zyi ?_)
  refine WP_par (fun ρ m => ∃ z : Nat × Nat, (ρ.find 4 = some (.slice a.shape.p a.shape.xs.length a.shape.c) ∧ ρ.find 64 = some (.int .i64 (a.data.xs.length : Int)) ∧ ρ.find 67 = some (.func (.func 252) #[] #[ptrV z.1]) ∧ ρ.find 70 = some (.func (.func 252) #[] #[ptrV z.2])) ∧ m = [boxB z.2 b] ++ ([boxB z.1 a] ++ [])) (m1 := []) Ent.refl (by decide +kernel) ?_ ?_
  · rintro ρ m ⟨z, ⟨f1, f2, f3, f4⟩, rfl⟩
    refine WL_cov (ρ' := [(4, .slice a.shape.p a.shape.xs.length a.shape.c), (64, .int .i64 (a.data.xs.length : Int)), (67, .func (.func 252) #[] #[ptrV z.1]), (70, .func (.func 252) #[] #[ptrV z.2])]) (Cov.cons f1 rfl (Cov.cons f2 rfl (Cov.cons f3 rfl (Cov.cons f4 rfl Cov.nil)))) ?_
    clear f1 f2 f3 f4 ρ
    ((repeat' (first|refine zza ?_|refine zc9 ?_|refine zzb fun w hw => ?_|refine zzh fun _ => ?_|refine zzi fun _ _ => ?_|refine zu1 ?_|refine zu2 ?_|refine zu3 ?_|refine zu4 fun _ => ?_|refine zzj (fun _ => ?_) fun _ => ?_)); (repeat' (refine CW_seq ?_; (repeat' (first|refine zza ?_|refine zc9 ?_|refine zzb fun w hw => ?_|refine zzh fun _ => ?_|refine zzi fun _ _ => ?_|refine zu1 ?_|refine zu2 ?_|refine zu3 ?_|refine zu4 fun _ => ?_|refine zzj (fun _ => ?_) fun _ => ?_)))))
    refine EX_ret5 rfl rfl rfl rfl rfl rfl rfl fun w' hw => ?_
    exact ⟨z, trivial, rfl, hw.ent (Ent.cons (.there .here) (Ent.cons .here Ent.nil))⟩
  · refine Pr_one 7 (by decide +kernel) ?_
    refine Stp_callXY (cap := []) rfl rfl rfl rfl (fun W => fit_plain a W) ?_
    rintro z1 _
    refine Pr_one 10 (by decide +kernel) ?_
    refine Stp_callXY (cap := []) rfl rfl rfl rfl (fun W => fit_plain b W) ?_
    rintro z2 _
    refine Pr_one 11 (by decide +kernel) ?_
    refine Stp_op rfl rfl (y_assign rfl) ?_
    exact Pr_end (by decide +kernel) ⟨(z1, z2), ⟨rfl, rfl, rfl, rfl⟩, rfl⟩
set_option maxHeartbeats 8000000 in
set_option maxRecDepth 100000 in
theorem fit_rank (a b : ArrM) (G : Rd) (w : World) (hS : Rd.le G w.cell?) (h0 : a.shape.xs.length ≠ 0) (h1 : b.shape.xs.length ≠ 0) (h2 : a.shape.xs.length ≠ b.shape.xs.length) :
    Calls Tryz.prog 226 #[arrV a, arrV b] w fun e w' => e = .returned (.tuple #[.slice none 0 0, .int .i64 0, .nilFunc, .nilFunc, .iface 49 (.int .i64 3)]) ∧ Below w.heap.size w w' := by
  refine enterR (args := [_, _]) (m := []) (F := []) hS.sub rfl Tryz.func226 rfl Tryz.ntmps226 (by simp) ?_
  clear hS
  ((repeat' (first|refine zza ?_|refine zc9 ?_|refine zzb fun w hw => ?_|refine zzh fun _ => ?_|refine zzi fun _ _ => ?_|refine zu1 ?_|refine zu2 ?_|refine zu3 ?_|refine zu4 fun _ => ?_|refine zzj (fun _ => ?_) fun _ => ?_)); (repeat' (refine CW_seq ?_; (repeat' (first|refine zza ?_|refine zc9 ?_|refine zzb fun w hw => ?_|refine zzh fun _ => ?_|refine zzi fun _ _ => ?_|refine zu1 ?_|refine zu2 ?_|refine zu3 ?_|refine zu4 fun _ => ?_|refine zzj (fun _ => ?_) fun _ => ?_)))))
  refine EX_ret5 rfl rfl rfl rfl rfl rfl rfl fun w' hw => ?_
  exact ⟨rfl, hw.below⟩
set_option maxHeartbeats 8000000 in
set_option maxRecDepth 100000 in
theorem fit_length (a b : ArrM) (G : Rd) (w : World) (hS : Rd.le G w.cell?) (ha : ArrG G a) (hb : ArrG G b) (h1 : b.shape.xs.length ≠ 0) (h2 : a.shape.xs.length = b.shape.xs.length) (h3 : a.shape.xs ≠ b.shape.xs) :
    Calls Tryz.prog 226 #[arrV a, arrV b] w fun e w' => e = .returned (.tuple #[.slice none 0 0, .int .i64 0, .nilFunc, .nilFunc, .iface 49 (.int .i64 4)]) ∧ Below w.heap.size w w' := by
  refine enterR (args := [_, _]) (m := []) (F := []) hS.sub rfl Tryz.func226 rfl Tryz.ntmps226 (by simp) ?_
  clear hS
  ((repeat' (first|refine zza ?_|refine zc9 ?_|refine zzb fun w hw => ?_|refine zzh fun _ => ?_|refine zzi fun _ _ => ?_|refine zu1 ?_|refine zu2 ?_|refine zu3 ?_|refine zu4 fun _ => ?_|refine zzj (fun _ => ?_) fun _ => ?_)); (repeat' (refine CW_seq ?_; (repeat' (first|refine zza ?_|refine zc9 ?_|refine zzb fun w hw => ?_|refine zzh fun _ => ?_|refine zzi fun _ _ => ?_|refine zu1 ?_|refine zu2 ?_|refine zu3 ?_|refine zu4 fun _ => ?_|refine zzj (fun _ => ?_) fun _ => ?_)))))
  refine WL_callV rfl rfl rfl (fun W hW => ints_Equal _ _ _ _ _ _ G W ha.shape hb.shape (hW.le zpk)) ?_
  rw [decide_eq_false h3]
  ((repeat' (first|refine zza ?_|refine zc9 ?_|refine zzb fun w hw => ?_|refine zzh fun _ => ?_|refine zzi fun _ _ => ?_|refine zu1 ?_|refine zu2 ?_|refine zu3 ?_|refine zu4 fun _ => ?_|refine zzj (fun _ => ?_) fun _ => ?_)); (repeat' (refine CW_seq ?_; (repeat' (first|refine zza ?_|refine zc9 ?_|refine zzb fun w hw => ?_|refine zzh fun _ => ?_|refine zzi fun _ _ => ?_|refine zu1 ?_|refine zu2 ?_|refine zu3 ?_|refine zu4 fun _ => ?_|refine zzj (fun _ => ?_) fun _ => ?_)))))
  refine EX_ret5 rfl rfl rfl rfl rfl rfl rfl fun w' hw => ?_
  exact ⟨rfl, hw.below⟩
end Go.Proofs.YtllgkdkjcbohcaaGreatDoor
