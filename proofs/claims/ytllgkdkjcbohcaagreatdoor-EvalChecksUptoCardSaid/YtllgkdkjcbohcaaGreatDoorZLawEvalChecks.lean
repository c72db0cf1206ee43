/-
  What the rows' lists give: the library's tables, a number.
  The law EvalChecks.
-/
import Derived.Test.YtllgkdkjcbohcaaGreatDoorZLaidH
import Derived.Test.YtllgkdkjcbohcaaGreatDoorZGlob
import Derived.Test.YtllgkdkjcbohcaaGreatDoorRows
import Derived.LaidHandle
import Derived.Lib.LaidTab
import Derived.Lib.LaidU8T
import Derived.PinnedBridge
import Derived.Test.YtllgkdkjcbohcaaGreatDoorZGo
import Derived.Test.YtllgkdkjcbohcaaGreatDoorZEvI
import Derived.Test.YtllgkdkjcbohcaaGreatDoorZEvS
import Derived.Test.YtllgkdkjcbohcaaGreatDoorZTwoSub
import Derived.Test.YtllgkdkjcbohcaaGreatDoorZSameArr
namespace Go.Proofs.YtllgkdkjcbohcaaGreatDoor
open Go.RowKit Go.Lib
theorem tabType : (Tryz.prog.globals[4]?).map (·.type) = some 358 := by kernel_rfl
theorem cellsTab : Tryz.prog.cellsOf 358 = 20 := by kernel_rfl
theorem cellsU64 : Tryz.prog.cellsOf 350 = 1 := by kernel_rfl
theorem pow_eq : (Rows.laid_internal_strconv_uint64pow10 : DataW Unit) = Lib.tabData .u64 Lib.pow10Tab := by kernel_rfl
theorem accept_eq : (Rows.laid_unicode_utf8_acceptRanges : DataW Unit) = Lib.acceptData := by kernel_rfl
theorem glob_of_reads {W : World} (h : VarReads Tryz.prog W "internal/strconv.uint64pow10" Rows.laid_internal_strconv_uint64pow10) : Glob W := by
  rw [pow_eq] at h
  obtain ⟨g, t, cs, fuel, p, hg, hty, hvar, hd⟩ := h
  obtain rfl := Option.some.inj (gPow.symm.trans hg)
  obtain rfl := Option.some.inj (tabType.symm.trans hty)
  unfold Glob Lib.TabIs
  rw [hvar, ← cells_of_tab Tryz.underlying358 Tryz.underlying350 cellsU64 cellsTab hd]
theorem u8x : U8Extra Tryz.prog Tryz.lays196_ren := ⟨by kernel_rfl, by kernel_rfl, by kernel_rfl, by kernel_rfl, by kernel_rfl, by kernel_rfl, by kernel_rfl⟩
theorem tabs_of_reads {W : World} (h : VarReads Tryz.prog W "unicode/utf8.first" Rows.laid_unicode_utf8_first) (k : VarReads Tryz.prog W "unicode/utf8.acceptRanges" Rows.laid_unicode_utf8_acceptRanges) : Tabs W := by
  rw [accept_eq] at k
  have e : Rows.laid_unicode_utf8_first = Lib.firstData := Pinned.utf8First_eq
  rw [e] at h
  exact utf8Tabs_of_readsT (U8Types.of196 Tryz.lays196) u8x h k
theorem maxl_of_shaped {W : World} (h : W.ShapedOpen Tryz.prog) : MaxL W := Tryz.laysM219.s1_3 W h
/-- what a law's walk takes of the world -/
structure LaidOk (W : World) : Prop where
  pow : Glob W
  tabs : Tabs W
  maxl : MaxL W
  hand : Handle W
theorem LaidOk.glob {W : World} (h : LaidOk W) : GlobA W := ⟨h.pow, h.tabs, h.maxl⟩
/-- .. where nothing is asked of errors -/
structure LaidG (W : World) : Prop where
  pow : Glob W
  tabs : Tabs W
  maxl : MaxL W
theorem LaidG.glob {W : World} (h : LaidG W) : GlobA W := ⟨h.pow, h.tabs, h.maxl⟩
end Go.Proofs.YtllgkdkjcbohcaaGreatDoor
namespace Go.Proofs.YtllgkdkjcbohcaaGreatDoor
open Go.RowKit
abbrev numM (k : Int) (q : Option Addr × Nat) : NodM := ⟨1, 0, 0, 0, 0, ⟨q.1, q.2, [k]⟩, []⟩
abbrev subM : NodM := ⟨7, 0, 2, 0, 0, ⟨none, 0, []⟩, []⟩
def subE : Ex := .two ⟨7, 0, 2, 0, 0, [], []⟩ (.leaf ⟨1, 0, 0, 0, 0, [5], []⟩) .nil (.leaf ⟨1, 0, 0, 0, 0, [3], []⟩)
/-- the functions that the fact needs -/
def primS : Prims := ⟨fun _ _ _ _ => (1, zeroA), fun _ _ _ a b => subF a b, fun _ _ => (1, zeroA)⟩
theorem sub_ev : evX primS noEnv (runD primS noEnv 50) .nil none zeroAr subE 10 = .ok ⟨false, [], [2]⟩ 7 := by kernel_rfl
theorem sub_value : valueR primS noEnv subE 10 = .ok ⟨false, [], [2]⟩ 6 := by
  unfold valueR
  rw [sub_ev]
  rfl
theorem sub_ok : subE.ok 0 := ⟨⟨by decide, rfl, rfl, fun h => by cases h⟩, ⟨by decide, .inl rfl⟩, trivial, by decide, .inl rfl⟩
theorem sub_given (q5 q3 : Option Addr × Nat) : Given primS [subM, numM 5 q5, numM 3 q3] := by
  have h7 : ∀ x ∈ [subM, numM 5 q5, numM 3 q3], x.op = 7 → x = subM := fun x hx h => by
    rcases List.mem_cons.1 hx with rfl | hx
    · rfl
    rcases List.mem_cons.1 hx with rfl | hx
    · cases h
    rw [List.mem_singleton.1 hx] at h
    cases h
  have hno : ∀ k : Int, k ≠ 7 → k ≠ 1 → ∀ x ∈ [subM, numM 5 q5, numM 3 q3], x.op ≠ k := fun k k7 k1 x hx h => by
    rcases List.mem_cons.1 hx with rfl | hx
    · exact k7 h.symm
    rcases List.mem_cons.1 hx with rfl | hx
    · exact k1 h.symm
    rw [List.mem_singleton.1 hx] at h
    exact k1 h.symm
  refine ⟨fun x hx h => absurd h (hno 2 (by decide) (by decide) x hx), fun x hx h => absurd h (hno 6 (by decide) (by decide) x hx), fun x hx h _ _ a b G w hS ha hb => ?_, fun ⟨x, hx, h⟩ => absurd h (hno 8 (by decide) (by decide) x hx), fun x hx h => absurd h (hno 6 (by decide) (by decide) x hx), fun x hx h _ _ a b hr => ?_, fun ⟨x, hx, h⟩ => absurd h (hno 8 (by decide) (by decide) x hx)⟩
  · obtain rfl := h7 x hx h
    exact two_sub a b G w hS ha hb
  · exact subF_one a b hr
set_option maxRecDepth 100000 in
theorem law6_num (k : Int) (G : Rd) (u0 : World) (hS : Rd.sub G [] u0) :
    Calls Tryz.prog 25 #[.int .i64 k] u0 (Tells (fun q : Option Addr × Nat => .agg (nodE (numM k q)).toArray) (fun q G' => Row encI 1 G' q.1 q.2 [k]) G u0) := by
  refine enterR (args := [_]) (m := []) (F := []) hS rfl Tryz.func25 rfl Tryz.ntmps25 (by simp) ?_
  clear hS
  ((repeat' (first|refine zza ?_|refine zc9 ?_|refine zzb fun w hw => ?_|refine zzh fun _ => ?_|refine zzi fun _ _ => ?_|refine zu1 ?_|refine zu2 ?_|refine zu3 ?_|refine zu4 fun _ => ?_|refine zzj (fun _ => ?_) fun _ => ?_)); (repeat' (refine CW_seq ?_; (repeat' (first|refine zza ?_|refine zc9 ?_|refine zzb fun w hw => ?_|refine zzh fun _ => ?_|refine zzi fun _ _ => ?_|refine zu1 ?_|refine zu2 ?_|refine zu3 ?_|refine zu4 fun _ => ?_|refine zzj (fun _ => ?_) fun _ => ?_)))))
  rename_i b2 bs
  have h1 : Holds u0 [] (ro u0 [] G :: sl 3 1 (some ⟨bs, 0, none⟩) 1 1 ([k].flatMap encI) :: []) w := hw.ent (Ent.cons zpk (Ent.blkSlN (n := 1) (sz := 1) zpk rfl rfl (by decide) Ent.nil))
  obtain ⟨G', g, r, k'⟩ := Holds.toRo (enc := encI) (sz := 1) (fun _ => rfl) (by decide) h1 (fun _ _ => by simp)
  exact ⟨(some ⟨bs, 0, none⟩, 1), G', r, rfl, g, k'⟩
theorem i64_0 : I64 0 := ⟨by decide, by decide⟩
theorem i64_1 : I64 1 := ⟨by decide, by decide⟩
theorem i64_2 : I64 2 := ⟨by decide, by decide⟩
theorem i64_7 : I64 7 := ⟨by decide, by decide⟩
theorem nodG_num {G : Rd} {k : Int} {q : Option Addr × Nat} (hk : I64 k) (h : Row encI 1 G q.1 q.2 [k]) : NodG G (numM k q) :=
  ⟨by simp, h, by simp, fun n hn => (by rw [List.mem_singleton.1 hn]; exact hk), i64_1, i64_0, i64_0, i64_0, i64_0⟩
theorem nodG_sub (G : Rd) : NodG G subM := ⟨by simp, Row.nil _ _ _, by simp, fun n hn => (by cases hn), i64_7, i64_0, i64_0, i64_2, i64_0⟩
set_option maxHeartbeats 16000000 in
set_option maxRecDepth 100000 in
theorem law6_fact (u0 : World) (hG : GlobA u0) :
    Calls Tryz.prog 22 #[] u0 fun e w' => e = .returned (.bool true) ∧ Below u0.heap.size u0 w' := by
  refine enterR (G := u0.cell?) (args := []) (m := []) (F := []) (Rd.sub_cell u0) rfl Tryz.func22 rfl Tryz.ntmps22 (by simp) ?_
  ((repeat' (first|refine zza ?_|refine zc9 ?_|refine zzb fun w hw => ?_|refine zzh fun _ => ?_|refine zzi fun _ _ => ?_|refine zu1 ?_|refine zu2 ?_|refine zu3 ?_|refine zu4 fun _ => ?_|refine zzj (fun _ => ?_) fun _ => ?_)); (repeat' (refine CW_seq ?_; (repeat' (first|refine zza ?_|refine zc9 ?_|refine zzb fun w hw => ?_|refine zzh fun _ => ?_|refine zzi fun _ _ => ?_|refine zu1 ?_|refine zu2 ?_|refine zu3 ?_|refine zu4 fun _ => ?_|refine zzj (fun _ => ?_) fun _ => ?_)))))
  refine WL_callT (r := []) zent rfl rfl rfl (fun W hS => law6_num 5 u0.cell? W hS) ?_
  rintro q5 G1 r5 g1
  ((repeat' (first|refine zza ?_|refine zc9 ?_|refine zzb fun w hw => ?_|refine zzh fun _ => ?_|refine zzi fun _ _ => ?_|refine zu1 ?_|refine zu2 ?_|refine zu3 ?_|refine zu4 fun _ => ?_|refine zzj (fun _ => ?_) fun _ => ?_)); (repeat' (refine CW_seq ?_; (repeat' (first|refine zza ?_|refine zc9 ?_|refine zzb fun w hw => ?_|refine zzh fun _ => ?_|refine zzi fun _ _ => ?_|refine zu1 ?_|refine zu2 ?_|refine zu3 ?_|refine zu4 fun _ => ?_|refine zzj (fun _ => ?_) fun _ => ?_)))))
  refine WL_callT (r := []) zent rfl rfl rfl (fun W hS => law6_num 3 G1 W hS) ?_
  rintro q3 G2 r3 g2
  ((repeat' (first|refine zza ?_|refine zc9 ?_|refine zzb fun w hw => ?_|refine zzh fun _ => ?_|refine zzi fun _ _ => ?_|refine zu1 ?_|refine zu2 ?_|refine zu3 ?_|refine zu4 fun _ => ?_|refine zzj (fun _ => ?_) fun _ => ?_)); (repeat' (refine CW_seq ?_; (repeat' (first|refine zza ?_|refine zc9 ?_|refine zzb fun w hw => ?_|refine zzh fun _ => ?_|refine zzi fun _ _ => ?_|refine zu1 ?_|refine zu2 ?_|refine zu3 ?_|refine zu4 fun _ => ?_|refine zzj (fun _ => ?_) fun _ => ?_)))))
  rename_i b10
  refine WL_row (enc := nodE) (sz := 7) (e := 32) (n := 3) (c := 3) (p := some ⟨b10, 0, none⟩) (xs := [subM, numM 5 q5, numM 3 q3]) (r := []) (fun _ => rfl) (by decide) rfl (Ent.cons zpk (Ent.blkSlN (n := 3) (sz := 7) zpk (by kernel_rfl) rfl (by decide) Ent.nil)) fun G3 g3 hrow => ?_
  have hnod : ∀ x ∈ [subM, numM 5 q5, numM 3 q3], NodG G3 x := fun x hx => by
    rcases List.mem_cons.1 hx with rfl | hx
    · exact nodG_sub G3
    rcases List.mem_cons.1 hx with rfl | hx
    · exact nodG_num ⟨by decide, by decide⟩ ((r5.mono g2.1).mono g3.1)
    rw [List.mem_singleton.1 hx]
    exact nodG_num ⟨by decide, by decide⟩ (r3.mono g3.1)
  have haop : ∀ x ∈ [subM, numM 5 q5, numM 3 q3], (x.aop ≠ 6 ∧ x.aop ≠ 7) ∧ x.op ≠ 8 := fun x hx => by
    rcases List.mem_cons.1 hx with rfl | hx
    · exact ⟨⟨by decide, by decide⟩, by decide⟩
    rcases List.mem_cons.1 hx with rfl | hx
    · exact ⟨⟨by show (0 : Int) ≠ 6; decide, by show (0 : Int) ≠ 7; decide⟩, by show (1 : Int) ≠ 8; decide⟩
    rw [List.mem_singleton.1 hx]
    exact ⟨⟨by show (0 : Int) ≠ 6; decide, by show (0 : Int) ≠ 7; decide⟩, by show (1 : Int) ≠ 8; decide⟩
  have hval := value_simple primS (some ⟨b10, 0, none⟩) 3 [subM, numM 5 q5, numM 3 q3] [] noEnv 50 (sub_given q5 q3) (fun y hy => (haop y hy).1) (fun y hy => (haop y hy).2) 3
  have hval0 := fun W (hS : Rd.le G3 W.cell?) (hGl : GlobA W) => eval_Value0 primS (some ⟨b10, 0, none⟩) 3 [subM, numM 5 q5, numM 3 q3] 3 hval subE (by decide) rfl sub_ok (by simp) subM rfl (by decide) 10 ⟨by decide, by decide⟩ G3 W hS hrow hnod hGl (fun v l h => by rw [sub_ev] at h; cases h; exact ⟨by decide, by decide⟩)
  rw [sub_value] at hval0
  clear hval haop hnod hrow r5 r3
  refine WL_callG (m1 := []) (r := []) (X := (ArrM × Int × Int) × Rd) (V := fun x => voV x.1) (Gx := fun x => x.2) (M := fun _ => []) (I := fun x => VOut (.ok ⟨false, [], [2]⟩ 6) x.1 x.2) zent rfl rfl rfl (fun W fp hW hO hS _ => ?_) ?_
  · obtain rfl := own_nil hO
    exact (hval0 W (fun a v e => (hS a v e).1) (hG.below hW.below)).mono fun e w' ⟨x, G', h1, h2, h3, h4⟩ => ⟨(x, G'), h1, h2, h3, h4⟩
  clear hval0
  rintro ⟨⟨⟨zc, ⟨sp, sc, sx⟩, ⟨dp, dc, dx⟩⟩, l, e'⟩, G4⟩ ⟨hz, hzG⟩ g4
  rcases hz with ⟨hz, rfl⟩ | ⟨hz, _⟩
  case inr => cases hz
  have ez : (⟨zc, sx, dx⟩ : Arr) = ⟨false, [], [2]⟩ ∧ l = 6 := by
    simp only [Res.ok.injEq] at hz
    exact ⟨hz.1.symm, hz.2.symm⟩
  obtain ⟨ez, rfl⟩ := ez
  simp only [Arr.mk.injEq] at ez
  obtain ⟨rfl, rfl, rfl⟩ := ez
  have hzs := hzG.shape
  have hzd := hzG.data
  clear hz hzG
  dsimp only at hzs hzd ⊢
  ((repeat' (first|refine zza ?_|refine zc9 ?_|refine zzb fun w hw => ?_|refine zzh fun _ => ?_|refine zzi fun _ _ => ?_|refine zu1 ?_|refine zu2 ?_|refine zu3 ?_|refine zu4 fun _ => ?_|refine zzj (fun _ => ?_) fun _ => ?_)); (repeat' (refine CW_seq ?_; (repeat' (first|refine zza ?_|refine zc9 ?_|refine zzb fun w hw => ?_|refine zzh fun _ => ?_|refine zzi fun _ _ => ?_|refine zu1 ?_|refine zu2 ?_|refine zu3 ?_|refine zu4 fun _ => ?_|refine zzj (fun _ => ?_) fun _ => ?_)))))
  rename_i b1 bs
  refine WL_rowB (enc := encI) (sz := 1) (b := bs) (T := 3) (u := (2 : Int)) (cs := #[.int .i64 2]) (fun _ => rfl) (by decide) rfl zpk zpk rfl fun G5 g5 r5 => ?_
  refine WL_callV rfl rfl rfl (fun W hW => same_Array false ⟨sp, sc, []⟩ ⟨dp, dc, [2]⟩ ⟨none, 0, []⟩ ⟨some ⟨bs, 0, none⟩, 1, [2]⟩ W ((hzs.mono g5.1).mono (hW.le zpk)) ((hzd.mono g5.1).mono (hW.le zpk)) (Row.nil _ _ _) (r5.mono (hW.le zpk)) rfl rfl) ?_
  ((repeat' (first|refine zza ?_|refine zc9 ?_|refine zzb fun w hw => ?_|refine zzh fun _ => ?_|refine zzi fun _ _ => ?_|refine zu1 ?_|refine zu2 ?_|refine zu3 ?_|refine zu4 fun _ => ?_|refine zzj (fun _ => ?_) fun _ => ?_)); (repeat' (refine CW_seq ?_; (repeat' (first|refine zza ?_|refine zc9 ?_|refine zzb fun w hw => ?_|refine zzh fun _ => ?_|refine zzi fun _ _ => ?_|refine zu1 ?_|refine zu2 ?_|refine zu3 ?_|refine zu4 fun _ => ?_|refine zzj (fun _ => ?_) fun _ => ?_)))))
  exact ⟨by simp, hw.below⟩
set_option maxHeartbeats 4000000 in
set_option maxRecDepth 100000 in
theorem law_EvalChecks (p : Option Addr) (c : Nat) (ws : List BindM) (u0 : World) (hR : Row bindE 4 u0.cell? p c ws) (hB : ∀ b ∈ ws, BindG u0.cell? b) (hG : GlobA u0) (hH : Handle u0) :
    Calls Tryz.prog 10 #[.slice p ws.length c] u0 fun e w' => e = .returned (.bool true) ∧ Below u0.heap.size u0 w' := by
  refine enterR (G := u0.cell?) (args := [_]) (m := []) (Rd.sub_cell u0) rfl Tryz.func10 rfl Tryz.ntmps10 (by simp) ?_
  (repeat' (first|refine zza ?_|refine zc9 ?_|refine zzb fun w hw => ?_|refine zzh fun _ => ?_|refine zzi fun _ _ => ?_|refine zzj (fun _ => ?_) fun _ => ?_))
  (apply WL_callV; rfl; rfl; rfl; (intro W hW; exact law6_fact W (hG.below hW.below)))
  (repeat' (first|refine zza ?_|refine zc9 ?_|refine zzb fun w hw => ?_|refine zzh fun _ => ?_|refine zzi fun _ _ => ?_|refine zzj (fun _ => ?_) fun _ => ?_))
  (apply WL_callV; rfl; rfl; rfl; (intro W hW; exact eval_Check p c ws W (hR.mono (hW.le .here)) (fun b hb => (hB b hb).mono (hW.le .here)) (hG.below hW.below)))
  (repeat' (first|refine zza ?_|refine zc9 ?_|refine zzb fun w hw => ?_|refine zzh fun _ => ?_|refine zzi fun _ _ => ?_|refine zzj (fun _ => ?_) fun _ => ?_))
  (apply WL_callV; rfl; rfl; rfl; (intro W hW; exact ref_SpaceFault p c ws W (hR.mono (hW.le .here)) (fun b hb => (hB b hb).mono (hW.le .here))))
  (repeat' (first|refine zza ?_|refine zc9 ?_|refine zzb fun w hw => ?_|refine zzh fun _ => ?_|refine zzi fun _ _ => ?_|refine zzj (fun _ => ?_) fun _ => ?_))
  (apply WL_callV; rfl; rfl; rfl; (intro W hW; exact same_Error (spaceF (ws.map BindM.bnd)) (spaceF (ws.map BindM.bnd)) W (hH.below hW.below)))
  (repeat' (first|refine zza ?_|refine zc9 ?_|refine zzb fun w hw => ?_|refine zzh fun _ => ?_|refine zzi fun _ _ => ?_|refine zzj (fun _ => ?_) fun _ => ?_))
  exact ⟨by simp, hw.below⟩
theorem bindG_of6 {w : World} {B : Nat} {b : BindM} (h : BindS w B b) (hB : B ≤ 1048576) : BindG w.cell? b := ⟨by have := h.1; omega, h.2.1.row, h.2.2.row, h.2.1.each, h.2.2.each⟩
theorem open_EvalChecks (x : SlV BindM) (w : World) (s : SlS bindE 4 BindS w 1048576 x) (L : LaidOk w) :
    Calls Tryz.prog 10 #[x.val] w fun e w' => e = .returned (.bool true) ∧ Below w.heap.size w w' :=
  law_EvalChecks x.p x.c x.xs w s.row (fun b hb => bindG_of6 (s.each b hb) (by omega)) L.glob L.hand
end Go.Proofs.YtllgkdkjcbohcaaGreatDoor
