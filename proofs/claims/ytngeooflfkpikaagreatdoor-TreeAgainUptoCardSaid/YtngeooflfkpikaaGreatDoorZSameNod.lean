/-
  lex.Read: its deferred call; Read.
  lex.Read.
  ravelinsame.Ints: of two slices that hold the same.
  ravelinsame.Nodes: nodes that are the same is told to be.
-/
import Derived.Test.YtngeooflfkpikaaGreatDoorZGo
import Derived.Test.YtngeooflfkpikaaGreatDoorZRead7
import Derived.Test.YtngeooflfkpikaaGreatDoorZAnyL
import Derived.Test.YtngeooflfkpikaaGreatDoorZPerm
import Derived.Test.YtngeooflfkpikaaGreatDoorZInst
import Derived.Test.YtngeooflfkpikaaGreatDoorZOpen
import Derived.Test.YtngeooflfkpikaaGreatDoorZTokRow
import Derived.Test.YtngeooflfkpikaaGreatDoorZRetC
namespace Go.Proofs.YtngeooflfkpikaaGreatDoor
open Go.RowKit
/-! ## a deferred call that recovers first (of no program) -/
section
variable {P : Program}
theorem bodyS_ofr {fn : Func} {R : Ending → World → Prop} {c₀ : Frame} {cs : List Frame} {u2 : FrameMode} {R' : Ending → FrameMode → World → Prop} (h : ∀ e w, R e w → R' e u2 w) :
    ∀ e a w, bodyPost P fn R e a w → bodyPostS P fn c₀ cs R' e a ({ c₀ with mode := u2 } :: cs) w := by
  intro e a w hb
  cases e with
  | normal => obtain ⟨h1, v, h2, h3⟩ := hb; exact ⟨h1, u2, rfl, v, h2, h _ _ h3⟩
  | ret => obtain ⟨h1, v, h2, h3⟩ := hb; exact ⟨h1, u2, rfl, v, h2, h _ _ h3⟩
  | panic ch => exact ⟨hb.1, u2, rfl, h _ _ hb.2⟩
  | outgrown => exact ⟨u2, h _ _ hb⟩
  | exit _ => exact hb
  | goto _ => exact hb
/-- what recover tells, and the mode of the frame that it was called for -/
def RecBr (u : FrameMode) (v : Value) (u2 : FrameMode) : Prop := (u = .returning ∧ v = .nilIface ∧ u2 = .returning) ∨ (∃ older, u = .panicking ({ v := v, recovered := false } :: older) ∧ u2 = .panicking ({ v := v, recovered := true } :: older))
theorem callsD_recr {f : FuncId} {fn : Func} {id d : Nat} {ty : TypeId} {pos : String} {body : Code} {args : List Value} {w : World} {F : List Nat} {m : List HP} {N : Nat} {u u2 : FrameMode} {v : Value} {R : Ending → World → Prop}
    (hf : P.funcs[f]? = some fn) (hb : fn.body = some (.seq (.region id #[⟨some d, .call ⟨.builtin .recover, #[], #[]⟩, ty, pos, #[], none⟩] false) body)) (hN : fn.ntmps = N) (hl : args.length ≤ N) (hd : d < N)
    (hr : RecBr u v u2) (hm : Own m F w) (h : CW P ⟨N, [], w, F⟩ (QBody P fn R) body ((d, v) :: argEnv 0 args) m) : CallsD P f args.toArray u w fun e u' w' => u' = u2 ∧ R e w' := by
  refine callsD_of_wpS hf hb fun c₀ cs hu => ?_
  have hfit : Fits N [] { tmps := args.toArray ++ Array.replicate (fn.ntmps - args.toArray.size) undef, defers := [] } (argEnv 0 args) := by
    refine ⟨by simp; omega, rfl, fun n v hv => ?_⟩
    obtain ⟨_, h2⟩ := find_argEnv _ _ _ _ hv
    have hlt : n < args.length := by simpa using (List.getElem?_eq_some_iff.1 h2).1
    rw [Array.getD_eq_getD_getElem?, Array.getElem?_append_left (by simpa using hlt)]
    simp at h2
    simp [h2]
  have key := wpS_of_wp (cs := { c₀ with mode := u2 } :: cs) (wp_mono (h.run _ _ (hfit.put hd v) (Holds.start hm)) (bodyS_ofr (c₀ := c₀) (cs := cs) (R' := fun e u' w' => u' = u2 ∧ R e w') fun e w hR => ⟨rfl, hR⟩))
  generalize ({ tmps := args.toArray ++ Array.replicate (fn.ntmps - args.toArray.size) undef, defers := [] } : Act) = a at *
  apply wpS_seq
  apply wpS_region
  rcases hr with ⟨rfl, rfl, rfl⟩ | ⟨older, rfl, rfl⟩
  · have e : ({ c₀ with mode := FrameMode.returning } : Frame) = c₀ := by cases c₀; simp at hu; simp [hu]
    rw [e] at key
    simpa [wpOpsS, go_sem, recoverD, hu, Exit.thenS] using key
  · simpa [wpOpsS, go_sem, recoverD, hu, Exit.thenS] using key
end
/-! ## Read's deferred call -/
set_option maxRecDepth 100000 in
theorem read_idle (b2 b3 b4 : Nat) (w : World) :
    CallsD Tryz.prog 42 #[.pointer (some ⟨b2, 0, none⟩), .pointer (some ⟨b3, 0, none⟩), .pointer (some ⟨b4, 0, none⟩)] .returning w fun e u w' => u = .returning ∧ (e = .returned (.tuple #[]) ∧ Below w.heap.size w w') := by
  refine callsD_recr (args := [_, _, _]) (m := []) (F := []) Tryz.func42 rfl Tryz.ntmps42 (by simp) (by decide) (.inl ⟨rfl, rfl, rfl⟩) rfl ?_
  (repeat' (first|refine zza ?_|refine zc9 ?_|refine zzb fun w hw => ?_|refine zzh fun _ => ?_|refine zzi fun _ _ => ?_|refine zzj (fun _ => ?_) fun _ => ?_))
  exact ⟨rfl, hw.below⟩
set_option maxRecDepth 100000 in
theorem read_catch (b2 b3 b4 : Nat) (v2 v3 v4 : Value) (x a : Int) (w : World) (F : List Nat) (hm : Own [blk b2 34 #[v2], blk b3 3 #[v3], blk b4 28 #[v4]] F w) :
    CallsD Tryz.prog 42 #[.pointer (some ⟨b2, 0, none⟩), .pointer (some ⟨b3, 0, none⟩), .pointer (some ⟨b4, 0, none⟩)] (.panicking (fltP x a)) w fun e u w' => u = .panicking [{ v := fltV x a, recovered := true }] ∧ (e = .returned (.tuple #[]) ∧ Holds w F [blk b2 34 #[.slice none 0 0], blk b3 3 #[.int .i64 a], blk b4 28 #[.iface 24 (.int .i64 x)]] w') := by
  refine callsD_recr (args := [_, _, _]) Tryz.func42 rfl Tryz.ntmps42 (by simp) (by decide) (.inr ⟨[], rfl, rfl⟩) hm ?_
  (repeat' (first|refine zza ?_|refine zzb fun w hw => ?_|refine zzh fun _ => ?_|refine zzi fun _ _ => ?_|refine zzj (fun _ => ?_) fun _ => ?_))
  rename_i b9
  refine CW_eff 7 [blk b9 111 #[.int .i64 x, .int .i64 a], blk b4 28 #[v4]] (pm := [blk b2 34 #[v2], blk b3 3 #[v3]]) zent (by kernel_rfl) (by decide +kernel) ?_
  (refine WE_op rfl rfl zyi ?_)
  (refine WE_op rfl rfl zyi ?_)
  (refine WE_op rfl rfl zyi ?_)
  (refine WE_op rfl rfl zyi ?_)
  (refine WE_op rfl rfl zyi ?_)
  apply WE_store (pm := [blk b3 3 #[v3]]) (hso := by decide +kernel) (hx := rfl) (hy := rfl) (h1 := rfl) (hp := zpk) (hr := zent) (hi := rfl) (hg := rfl) (hn := rfl)
  apply WE_store (pm := [blk b2 34 #[.slice none 0 0]]) (hso := by decide +kernel) (hx := rfl) (hy := rfl) (h1 := rfl) (hp := zpk) (hr := zent) (hi := rfl) (hg := rfl) (hn := rfl)
  refine WE_end ?_
  (repeat' (first|refine zza ?_|refine zc9 ?_|refine zzb fun w hw => ?_|refine zzh fun _ => ?_|refine zzi fun _ _ => ?_|refine zzj (fun _ => ?_) fun _ => ?_))
  exact ⟨rfl, hw.ent zent⟩
end Go.Proofs.YtngeooflfkpikaaGreatDoor
namespace Go.Proofs.YtngeooflfkpikaaGreatDoor
open Go.RowKit
section
variable {P : Program} {K : Cx} {ρ : Env} {m m' : List HP}
theorem results_cells3 {fn : Func} {t1 t2 t3 : Tmp} {T1 T2 T3 : TypeId} (hr : fn.results = #[.cell t1 T1, .cell t2 T2, .cell t3 T3]) [S1 : NAgg P T1] [S2 : NAgg P T2] [S3 : NAgg P T3] {tmps : Array Value} {w : World} {b1 b2 b3 : Nat} (h1 : tmps.getD t1 undef = .pointer (some ⟨b1, 0, none⟩)) (h2 : tmps.getD t2 undef = .pointer (some ⟨b2, 0, none⟩)) (h3 : tmps.getD t3 undef = .pointer (some ⟨b3, 0, none⟩))
    {v1 v2 v3 : Value} {U1 U2 U3 : TypeId} (c1 : w.heap[b1]? = some (.cells #[v1] U1 (0, 0))) (c2 : w.heap[b2]? = some (.cells #[v2] U2 (0, 0))) (c3 : w.heap[b3]? = some (.cells #[v3] U3 (0, 0))) :
    (results fn tmps).run P w = .ok (.tuple #[v1, v2, v3]) w := by
  have e1 : w.cell? ⟨b1, 0, none⟩ = some v1 := by simp [World.cell?, c1]
  have e2 : w.cell? ⟨b2, 0, none⟩ = some v2 := by simp [World.cell?, c2]
  have e3 : w.cell? ⟨b3, 0, none⟩ = some v3 := by simp [World.cell?, c3]
  rw [Array.getD_eq_getD_getElem?] at h1 h2 h3
  simp [results, hr, h1, h2, h3, loadVar, S1.agg, S2.agg, S3.agg, e1, e2, e3, go_sem]
end
theorem Holds.all {w0 w : World} {F : List Nat} {m : List HP} (h : Holds w0 F m w) : ∃ fp, Own m fp w ∧ ∀ m' w', Holds w fp m' w' → Holds w0 F m' w' := by
  obtain ⟨fp, ho, hF⟩ := h.own
  refine ⟨fp, ho, fun m' w' k => ⟨⟨k.keep.os.trans h.keep.os, k.keep.tape.trans h.keep.tape, k.keep.output.trans h.keep.output, Nat.le_trans h.keep.size k.keep.size, fun i hi hiF => (k.keep.block i (Nat.lt_of_lt_of_le hi h.keep.size) (fun hfp => hiF (hF i hfp hi))).trans (h.keep.block i hi hiF)⟩, ?_⟩⟩
  obtain ⟨g, hg, hgl⟩ := k.own
  exact ⟨g, hg, fun i hi h0 => hF i (hgl i hi (Nat.lt_of_lt_of_le h0 h.keep.size)) h0⟩
theorem all_ok {b : Nat} {src : List UInt8} {ts : List Tok} {G : Rd} (h : readF src.length src 0 0 = (0, 0, ts)) (hG : LexG G) (w : World) (fp : List Nat) (hm : Own [rdr b src 0 (.slice none 0 0), sl 39 5 none 0 0 []] fp w) (hs : Rd.sub G fp w) (hl : src.length ≤ 1000) :
    Calls Tryz.prog 43 #[.pointer (some ⟨b, 0, none⟩)] w fun e w' => ∃ x : Option Addr × Nat × Nat, True ∧ e = .returned (.tuple #[]) ∧ Holds w fp (ro w fp G :: [rdr b src x.2.2 (.slice x.1 ts.length x.2.1), sl 39 5 x.1 ts.length x.2.1 (ts.flatMap tokE)]) w' :=
  (lex_all b src G hG w fp hm hs hl).mono fun e w' hp => by
    rcases hp with ⟨ts', p, c, pos, h1, h2, h3⟩ | ⟨x, a, hx, h1, _⟩
    · rw [h] at h1; simp only [Prod.mk.injEq, true_and] at h1; subst h1; exact ⟨(p, c, pos), trivial, h2, h3⟩
    · rw [h] at h1; simp only [Prod.mk.injEq] at h1; exact absurd h1.1.symm hx
theorem all_bad {b : Nat} {src : List UInt8} {x a : Int} {us : List Tok} {G : Rd} (hx : x ≠ 0) (h : readF src.length src 0 0 = (x, a, us)) (hG : LexG G) (w : World) (fp : List Nat) (hm : Own [rdr b src 0 (.slice none 0 0), sl 39 5 none 0 0 []] fp w) (hs : Rd.sub G fp w) (hl : src.length ≤ 1000) :
    Calls Tryz.prog 43 #[.pointer (some ⟨b, 0, none⟩)] w fun e w' => e = .panicked (fltP x a) ∧ Keep w fp w' :=
  (lex_all b src G hG w fp hm hs hl).mono fun e w' hp => by
    rcases hp with ⟨ts', p, c, pos, h1, h2, h3⟩ | ⟨x', a', _, h1, h2, h3⟩
    · rw [h] at h1; simp only [Prod.mk.injEq] at h1; exact absurd h1.1 hx
    · rw [h] at h1; simp only [Prod.mk.injEq] at h1; obtain ⟨rfl, rfl, _⟩ := h1; exact ⟨h2, h3⟩
/-- what Read tells -/
def ReadPost (src : List UInt8) (w : World) (e : Ending) (w' : World) : Prop :=
  ∃ p n c, e = .returned (.tuple #[.slice p n c, .int .i64 (readL src).2.1, errV 24 (readL src).1]) ∧ n = (readL src).2.2.length ∧ Holds w [] [sl 39 5 p n c ((readL src).2.2.flatMap tokE)] w'
set_option maxHeartbeats 4000000 in
set_option maxRecDepth 100000 in
theorem lex_Read (src : List UInt8) (G : Rd) (hG : LexG G) (w : World) (hs : Rd.sub G [] w) (hl : src.length ≤ 1099511627776) :
    Calls Tryz.prog 17 #[.string ⟨src.toArray⟩] w (ReadPost src w) := by
  refine enterD (args := [_]) (m := [ro w [] G]) (F := []) Tryz.func17 rfl Tryz.ntmps17 (by simp) ⟨[], [], rfl, ⟨by simp, fun a v e => .inr ⟨cell_lt (hs a v e).1, (hs a v e).2, (hs a v e).1⟩⟩, rfl, by simp⟩ ?_
  by_cases hlong : (1000 : Int) < (src.length : Int)
  · have hr : readL src = (7, 0, []) := by unfold readL; rw [if_pos (by omega)]
    (repeat' (first|refine zza ?_|refine zc9 ?_|refine zzb fun w hw => ?_|refine zzh fun _ => ?_|refine zzi fun _ _ => ?_|refine zzj (fun _ => ?_) fun _ => ?_))
    refine EX_retD0 rfl fun a w' hf hm => ⟨_, results_cells3 rfl (hf.get 2 _ rfl) (hf.get 3 _ rfl) (hf.get 4 _ rfl) (hm.blk zpk) (hm.blk zpk) (hm.blk zpk), ?_⟩
    exact ⟨none, 0, 0, by rw [hr]; rfl, by rw [hr]; rfl, by rw [hr]; exact hm.ent (Ent.nilown Ent.nil)⟩
  · have hr : readL src = readF src.length src 0 0 := by unfold readL; rw [if_neg (by omega)]
    (repeat' (first|refine zza ?_|refine zc9 ?_|refine zzb fun w hw => ?_|refine zzh fun _ => ?_|refine zzi fun _ _ => ?_|refine zzj (fun _ => ?_) fun _ => ?_))
    rename_i b2 b3 b4
    apply WL_op rfl rfl (y_makeFunc rfl)
    refine WL_defer rfl rfl rfl ?_
    (repeat' (first|refine zza ?_|refine zc9 ?_|refine zzb fun w hw => ?_|refine zzh fun _ => ?_|refine zzi fun _ _ => ?_|refine zzj (fun _ => ?_) fun _ => ?_))
    rename_i b5
    obtain ⟨x, a, us, hz⟩ : ∃ x a us, readF src.length src 0 0 = (x, a, us) := ⟨_, _, _, rfl⟩
    by_cases hx : x = 0
    · subst hx
      obtain ⟨_, ha⟩ := readF_ok _ _ _ _ _ _ hz
      subst ha
      refine WL_callUX (m1 := [rdr b5 src 0 (.slice none 0 0), sl 39 5 none 0 0 []]) (Ent.cons zpk (Ent.cons zpk (Ent.nilown Ent.refl))) rfl rfl rfl (fun W fp hO hS => all_ok hz hG W fp hO hS (by omega)) ?_
      rintro ⟨p, c, pos⟩ _
      dsimp only
      (repeat' (first|refine zza ?_|refine zc9 ?_|refine zzb fun w hw => ?_|refine zzh fun _ => ?_|refine zzi fun _ _ => ?_|refine zzj (fun _ => ?_) fun _ => ?_))
      refine EX_retD1 rfl fun a w' hf hm => (read_idle b2 b3 b4 w').mono ?_
      rintro e u w2 ⟨rfl, rfl, hb⟩
      have hm2 := hm.grow hb
      refine ⟨_, rfl, rfl, _, results_cells3 rfl (hf.get 2 _ rfl) (hf.get 3 _ rfl) (hf.get 4 _ rfl) (hm2.blk zpk) (hm2.blk zpk) (hm2.blk zpk), ?_⟩
      exact ⟨p, us.length, c, by rw [hr, hz, errV_zero], by rw [hr, hz], by rw [hr, hz]; exact hm2.ent zent⟩
    · have hus := readF_err _ _ _ _ _ _ _ hz hx
      subst hus
      refine WL_callUP (m1 := [rdr b5 src 0 (.slice none 0 0), sl 39 5 none 0 0 []]) (Ent.cons zpk (Ent.cons zpk (Ent.nilown Ent.refl))) rfl rfl rfl (fun W fp hO hS => all_bad hx hz hG W fp hO hS (by omega)) ?_
      (repeat' (first|refine zza ?_|refine zc9 ?_|refine zzb fun w hw => ?_|refine zzh fun _ => ?_|refine zzi fun _ _ => ?_|refine zzj (fun _ => ?_) fun _ => ?_))
      refine EX_panD1 rfl fun a' w' hf hm => ?_
      obtain ⟨fp, ho, hth⟩ := (hm.ent (m' := [blk b2 34 #[.slice none 0 0], blk b3 3 #[.int .i64 0], blk b4 28 #[.nilIface]]) zent).all
      refine (read_catch b2 b3 b4 _ _ _ x a w' fp ho).mono ?_
      rintro e u w2 ⟨rfl, hh⟩
      obtain ⟨rfl, hh⟩ := hh
      have hm2 := hth _ _ hh
      refine ⟨_, rfl, rfl, _, results_cells3 rfl (hf.get 2 _ rfl) (hf.get 3 _ rfl) (hf.get 4 _ rfl) (hm2.blk zpk) (hm2.blk zpk) (hm2.blk zpk), ?_⟩
      exact ⟨none, 0, 0, by rw [hr, hz, errV_ne hx], by rw [hr, hz]; rfl, by rw [hr, hz]; exact hm2.ent (Ent.nilown Ent.nil)⟩
end Go.Proofs.YtngeooflfkpikaaGreatDoor
namespace Go.Proofs.YtngeooflfkpikaaGreatDoor
open Go.RowKit
set_option maxRecDepth 100000 in
theorem same_Ints (p q : Option Addr) (c d n : Nat) (xs : List Int) (hn : xs.length = n) (w : World) (hx : Row encI 1 w.cell? p c xs) (hy : Row encI 1 w.cell? q d xs) :
    Calls Tryz.prog 30 #[.slice p n c, .slice q n d] w fun e w' => e = .returned (.bool true) ∧ Below w.heap.size w w' := by
  subst hn
  have hlen := hx.len
  refine enterR (G := w.cell?) (args := [_, _]) (m := []) (Rd.sub_cell w) rfl Tryz.func30 rfl Tryz.ntmps30 (by simp) ?_
  (repeat' (first|refine zza ?_|refine zc9 ?_|refine zzb fun w hw => ?_|refine zzh fun _ => ?_|refine zzi fun _ _ => ?_|refine zzj (fun _ => ?_) fun _ => ?_))
  refine CW_loopK [(0,_),(1,_)] zcov (fun x : Nat => [(5, .int .i64 x)]) (fun _ => [ro w [] w.cell?]) (fun x => x ≤ xs.length) (fun x => xs.length - x) 0 (Nat.zero_le _) zcov zent ?_
  rintro k hk
  by_cases hlt : k < xs.length
  · obtain ⟨u, hu⟩ : ∃ u, xs[k]? = some u := ⟨xs[k], by simp [hlt]⟩
    have hnn : ¬ u ≠ u := fun h => h rfl
    (repeat' (first|refine zza ?_|refine zc9 ?_|refine zzb fun w hw => ?_|refine zzh fun _ => ?_|refine zzi fun _ _ => ?_|refine zzj (fun _ => ?_) fun _ => ?_))
    apply WQ_op rfl rfl (y_load rfl (rd_row (enc := encI) hx zpk hu))
    (repeat' (first|refine zza ?_|refine zc9 ?_|refine zzb fun w hw => ?_|refine zzh fun _ => ?_|refine zzi fun _ _ => ?_|refine zzj (fun _ => ?_) fun _ => ?_))
    apply WQ_op rfl rfl (y_load rfl (rd_row (enc := encI) hy zpk hu))
    (repeat' (first|refine zza ?_|refine zc9 ?_|refine zzb fun w hw => ?_|refine zzh fun _ => ?_|refine zzi fun _ _ => ?_|refine zzj (fun _ => ?_) fun _ => ?_))
    exact EX_loop' (k + 1) ⟨zcov, zent, by omega, by omega⟩
  · have hkl : k = xs.length := by omega
    subst hkl
    (repeat' (first|refine zza ?_|refine zc9 ?_|refine zzb fun w hw => ?_|refine zzh fun _ => ?_|refine zzi fun _ _ => ?_|refine zzj (fun _ => ?_) fun _ => ?_))
    exact ⟨rfl, hw.below⟩
end Go.Proofs.YtngeooflfkpikaaGreatDoor
namespace Go.Proofs.YtngeooflfkpikaaGreatDoor
open Go.RowKit
/-- some of an element's cells -/
theorem rd_rowSn {K : Cx} {m r : List HP} {G : Rd} {α : Type} {enc : α → List Value} {sz c i j : Nat} {p : Option Addr} {xs : List α} {u : α} {l : List Value} (hR : Row enc sz G p c xs) (hp : Pick m (ro K.w0 K.F G) r) (hu : xs[i]? = some u) (hv : ((enc u).drop j).take l.length = l) : RdC K m ((addrAt p (i * sz)).add j) l := rd_G hp fun k v hk => by
  rw [Go.Deep.add_add]
  refine hR.cell i u hu (j + k) v ?_
  rw [← hv, List.getElem?_take] at hk
  split at hk
  · rwa [List.getElem?_drop] at hk
  · cases hk
set_option maxHeartbeats 8000000 in
set_option maxRecDepth 100000 in
theorem same_Nodes (p q : Option Addr) (c k : Nat) (xs ys : List NodM) (G : Rd) (u0 : World) (hS : Rd.sub G [] u0) (hX : Row nodE 7 G p c xs) (hY : Row nodE 7 G q k ys) (hXn : ∀ x ∈ xs, Row encI 1 G x.nums.p x.nums.c x.nums.xs) (hYn : ∀ x ∈ ys, Row encI 1 G x.nums.p x.nums.c x.nums.xs) (h : xs.map NodM.nod = ys.map NodM.nod) :
    Calls Tryz.prog 13 #[.slice p xs.length c, .slice q ys.length k] u0 fun e w' => e = .returned (.bool true) ∧ Below u0.heap.size u0 w' := by
  have hl : xs.length = ys.length := by have := congrArg List.length h; simpa using this
  have hXl := hX.len
  refine enterR (G := G) (args := [_, _]) (m := []) (F := []) hS rfl Tryz.func13 rfl Tryz.ntmps13 (by simp) ?_
  (repeat' (first|refine zza ?_|refine zc9 ?_|refine zzb fun w hw => ?_|refine zzh fun _ => ?_|refine zzi fun _ _ => ?_|refine zzj (fun _ => ?_) fun _ => ?_))
  refine CW_loopP [(0,_),(1,_)] zcov (fun i : Nat => [(5, .int .i64 (i : Int))]) (fun i => i ≤ xs.length) (fun i => xs.length - i) 0 (Nat.zero_le _) zcov ?_
  intro i hi
  by_cases hlt : i < xs.length
  · have hlt2 : i < ys.length := by omega
    obtain ⟨x, hx⟩ : ∃ x, xs[i]? = some x := ⟨xs[i], by simp [hlt]⟩
    obtain ⟨y, hy⟩ : ∃ y, ys[i]? = some y := ⟨ys[i], by simp [hlt2]⟩
    have hxy : x.nod = y.nod := by
      have := congrArg (fun l => l[i]?) h
      simp only [List.getElem?_map, hx, hy, Option.map_some] at this
      injection this
    have hnx := hXn x (List.mem_of_getElem? hx)
    have hny := hYn y (List.mem_of_getElem? hy)
    have e1 : x.op = y.op := congrArg Nod.op hxy
    have e2 : x.aop = y.aop := congrArg Nod.aop hxy
    have e3 : x.af = y.af := congrArg Nod.af hxy
    have e4 : x.ag = y.ag := congrArg Nod.ag hxy
    have e5 : x.n = y.n := congrArg Nod.n hxy
    have e7 : x.nums.xs = y.nums.xs := congrArg Nod.nums hxy
    have e8 : x.text = y.text := congrArg Nod.text hxy
    clear hXn hYn h hxy
    (repeat' (first|refine zza ?_|refine zc9 ?_|refine zzb fun w hw => ?_|refine zzh fun _ => ?_|refine zzi fun _ _ => ?_|refine zzj (fun _ => ?_) fun _ => ?_))
    rw [← e7]
    have hny' : Row encI 1 G y.nums.p y.nums.c x.nums.xs := by rw [e7]; exact hny
    (apply WQ_callV; rfl; rfl; rfl; (intro W hW; exact same_Ints x.nums.p y.nums.p x.nums.c y.nums.c x.nums.xs.length x.nums.xs rfl W (hnx.mono (hW.le .here)) (hny'.mono (hW.le .here))))
    clear hnx hny hny' e7
    (repeat' (first|refine zza ?_|refine zc9 ?_|refine zzb fun w hw => ?_|refine zzh fun _ => ?_|refine zzi fun _ _ => ?_|refine zzj (fun _ => ?_) fun _ => ?_))
    apply WQ_op rfl rfl (y_loadA (zs := [.int .i64 0, .int .i64 0, .int .i64 0]) (cs := [.int .i64 x.aop, .int .i64 x.af, .int .i64 x.ag]) rfl (rd_rowSn (enc := nodE) hX .here hx rfl) rfl)
    (repeat' (first|refine zza ?_|refine zc9 ?_|refine zzb fun w hw => ?_|refine zzh fun _ => ?_|refine zzi fun _ _ => ?_|refine zzj (fun _ => ?_) fun _ => ?_))
    apply WQ_op rfl rfl (y_loadA (zs := [.int .i64 0, .int .i64 0, .int .i64 0]) (cs := [.int .i64 y.aop, .int .i64 y.af, .int .i64 y.ag]) rfl (rd_rowSn (enc := nodE) hY .here hy rfl) rfl)
    rw [← e2, ← e3, ← e4]
    apply WQ_op rfl rfl (y_neS (b := true) rfl rfl (by simp [cellsE, cellE]))
    clear e2 e3 e4
    (repeat' (first|refine zza ?_|refine zc9 ?_|refine zzb fun w hw => ?_|refine zzh fun _ => ?_|refine zzi fun _ _ => ?_|refine zzj (fun _ => ?_) fun _ => ?_))
    exact EX_loop' (i + 1) ⟨zcov, zent, by omega, by omega⟩
  · (repeat' (first|refine zza ?_|refine zc9 ?_|refine zzb fun w hw => ?_|refine zzh fun _ => ?_|refine zzi fun _ _ => ?_|refine zzj (fun _ => ?_) fun _ => ?_))
    exact ⟨rfl, hw.below⟩
end Go.Proofs.YtngeooflfkpikaaGreatDoor
