/-
  The law TreeBrackets.
-/
import Derived.Test.YtgjmgmejojbdeaaDoorGo
import Derived.Test.YtgjmgmejojbdeaaDoorBrackets
import Derived.Test.YtgjmgmejojbdeaaDoorLaidN
import Derived.Test.YtgjmgmejojbdeaaDoorSameNod
import Derived.Test.YtgjmgmejojbdeaaDoorPar
namespace Go.Proofs.YtgjmgmejojbdeaaDoor
open Go.RowKit

/-- what a law knows of what Parse told -/
def ParA (L : List Tok) (z : List NodM × Option Addr × Nat) (G : Rd) : Prop := z.1.map NodM.nod = (parseF L).2.2 ∧ Row nodE 7 G z.2.1 z.2.2 z.1 ∧ ∀ x ∈ z.1, NodG G x
def parV (L : List Tok) (z : List NodM × Option Addr × Nat) : Value := .tuple #[.slice z.2.1 z.1.length z.2.2, .int .i64 (parseF L).2.1, errV 41 (parseF L).1]
theorem parse_law (p : Option Addr) (c : Nat) (L : List Tok) (W : World) (hR : Row tokE 5 W.cell? p c L) (hT : ∀ t ∈ L, I64 t.num ∧ I64 t.fn ∧ t.text.length ≤ 4294967280) (hG : GlobA W) :
    Calls Tryd.prog 5 #[.slice p L.length c] W fun e w' => ∃ z : List NodM × Option Addr × Nat, e = .returned (parV L z) ∧ Below W.heap.size W w' ∧ (ParA L z w'.cell? ∧ Rd.le W.cell? w'.cell?) :=
  (tree_Parse p c L W hR hT hG).mono fun _ _ ⟨ns, q, c', h1, h2, h3, h4, hb⟩ => ⟨(ns, q, c'), h4, hb, ⟨h1, h2, h3⟩, Rd.le_below hb⟩
def numT : Tok := ⟨1, 0, 5, [], 0⟩
theorem fact_spells : (spellF [numT]).2 = 0 := by decide +kernel
theorem fact_parse : parseF [leftT, numT, rightT] = (0, 0, [⟨1, 0, 0, 0, 0, [5], []⟩]) := by
  have h : parseF [numT] = (0, 0, [⟨1, 0, 0, 0, 0, [5], []⟩]) := parse_of (L := [numT]) (x := (none, .leaf ⟨1, 0, 0, 0, 0, [5], []⟩)) (by simp) (fun t ht => by
    obtain rfl : t = numT := by simpa using ht
    exact fact_spells) (by kernel_rfl)
  exact brackets h (by simp) fun n r hn => by injection hn with hn _; rw [← hn]; decide
theorem tokOk_lit {t : Tok} (h : t = leftT ∨ t = numT ∨ t = rightT) : I64 t.num ∧ I64 t.fn ∧ t.text.length ≤ 4294967280 := by
  rcases h with rfl | rfl | rfl <;> simp [leftT, numT, rightT, I64]
set_option maxHeartbeats 8000000 in
set_option maxRecDepth 100000 in
theorem law_TreeBrackets (p : Option Addr) (c : Nat) (L : List Tok) (u0 : World) (hR : Row tokE 5 u0.cell? p c L) (hT : ∀ t ∈ L, I64 t.num ∧ I64 t.fn ∧ t.text.length ≤ 4294967280) (hG : GlobA u0) :
    Calls Tryd.prog 3 #[.slice p L.length c] u0 fun e w' => e = .returned (.bool true) ∧ Below u0.heap.size u0 w' := by
  have hLl := hR.len
  refine enterR (G := u0.cell?) (args := [_]) (m := []) (F := []) (Rd.sub_cell u0) rfl Tryd.func3 rfl Tryd.ntmps3 (by simp) ?_
  ((repeat' (first|refine zza ?_|refine zc9 ?_|refine zzb fun w hw => ?_|refine zzh fun _ => ?_|refine zzi fun _ _ => ?_|refine zzj (fun _ => ?_) fun _ => ?_)); (repeat' (refine CW_seq ?_; (repeat' (first|refine zza ?_|refine zc9 ?_|refine zzb fun w hw => ?_|refine zzh fun _ => ?_|refine zzi fun _ _ => ?_|refine zzj (fun _ => ?_) fun _ => ?_)))))
  rename_i b2
  refine WL_ent (m' := [blk b2 30 ([leftT, numT, rightT].flatMap tokE).toArray, ro u0 [] u0.cell?]) (Ent.consK (k := Ent.cons .here Ent.nil) .here) ?_
  refine WL_callA (X := List NodM × Option Addr × Nat) (V := parV [leftT, numT, rightT]) (Φ := fun z G => ParA [leftT, numT, rightT] z G ∧ Rd.le u0.cell? G) rfl rfl rfl rfl (fun W hW => (parse_law (some ⟨b2, 0, none⟩) 3 [leftT, numT, rightT] W (row_blk (enc := tokE) (xs := [leftT, numT, rightT]) hW .here (fun _ => rfl) (by simp)) (fun x hx => tokOk_lit (by simpa using hx)) (hG.below hW.below)).mono fun e w' ⟨z, h1, h2, h3, h4⟩ => ⟨z, h1, h2, h3, fun a v e => h4 a v (hW.rd (.there .here) e)⟩) ?_
  rintro ⟨x1, q1, k1⟩ G1 ⟨⟨hx1, hr1, hg1⟩, hle1⟩
  unfold parV
  rw [fact_parse] at hx1
  dsimp only at hx1 hr1
  rw [fact_parse]
  dsimp only
  rw [errV_zero]
  obtain ⟨xa, rfl⟩ : ∃ xa, x1 = [xa] := by
    have := congrArg List.length hx1
    rw [List.length_map] at this
    exact List.length_eq_one_iff.1 this
  have hop : xa.op = 1 := by
    simp only [List.map_cons, List.map_nil, List.cons.injEq, and_true] at hx1
    exact congrArg Nod.op hx1
  have hx0 : ([xa] : List NodM)[0]? = some xa := rfl
  have h2 : 0 < ([xa] : List NodM).length := by simp
  clear hx1 hg1
  rw [show ([xa] : List NodM).length = 1 from rfl]
  have hRG := hR.mono hle1
  ((repeat' (first|refine zza ?_|refine zc9 ?_|refine zzb fun w hw => ?_|refine zzh fun _ => ?_|refine zzi fun _ _ => ?_|refine zzj (fun _ => ?_) fun _ => ?_)); (repeat' (refine CW_seq ?_; (repeat' (first|refine zza ?_|refine zc9 ?_|refine zzb fun w hw => ?_|refine zzh fun _ => ?_|refine zzi fun _ _ => ?_|refine zzj (fun _ => ?_) fun _ => ?_)))))
  refine WL_callA (X := List NodM × Option Addr × Nat) (V := parV L) (Φ := fun z G => ParA L z G ∧ Rd.le u0.cell? G) rfl rfl rfl rfl (fun W hW => (parse_law p c L W (hRG.mono (hW.le .here)) hT (hG.below hW.below)).mono fun e w' ⟨z, h1, h2, h3, h4⟩ => ⟨z, h1, h2, h3, Rd.le_trans hle1 (Rd.le_trans (hW.le .here) h4)⟩) ?_
  clear hRG hle1 hr1 hx0 h2 hop
  rintro ⟨x2, q2, k2⟩ G2 ⟨⟨hx2, hr2, hg2⟩, hle2⟩
  unfold parV
  obtain ⟨er, at2, ns, hP⟩ : ∃ a b c, parseF L = (a, b, c) := ⟨_, _, _, rfl⟩
  rw [hP] at hx2
  rw [hP]
  dsimp only at hx2 hr2 hg2 ⊢
  by_cases her : er = 0
  case neg =>
    rw [errV_ne her]
    ((repeat' (first|refine zza ?_|refine zc9 ?_|refine zzb fun w hw => ?_|refine zzh fun _ => ?_|refine zzi fun _ _ => ?_|refine zzj (fun _ => ?_) fun _ => ?_)); (repeat' (refine CW_seq ?_; (repeat' (first|refine zza ?_|refine zc9 ?_|refine zzb fun w hw => ?_|refine zzh fun _ => ?_|refine zzi fun _ _ => ?_|refine zzj (fun _ => ?_) fun _ => ?_)))))
    exact ⟨rfl, hw.below⟩
  subst her
  rw [errV_zero]
  have hnl := hr2.len
  have hL200 := (parse_ok hP).1
  by_cases hlen : L.length + 2 ≤ 200
  case neg =>
    have hli : (200 : Int) < (L.length : Int) + 2 := by omega
    ((repeat' (first|refine zza ?_|refine zc9 ?_|refine zzb fun w hw => ?_|refine zzh fun _ => ?_|refine zzi fun _ _ => ?_|refine zzj (fun _ => ?_) fun _ => ?_)); (repeat' (refine CW_seq ?_; (repeat' (first|refine zza ?_|refine zc9 ?_|refine zzb fun w hw => ?_|refine zzh fun _ => ?_|refine zzi fun _ _ => ?_|refine zzj (fun _ => ?_) fun _ => ?_)))))
    exact ⟨rfl, hw.below⟩
  have hli : ¬ (200 : Int) < (L.length : Int) + 2 := by omega
  by_cases hn0 : x2.length = 0
  · ((repeat' (first|refine zza ?_|refine zc9 ?_|refine zzb fun w hw => ?_|refine zzh fun _ => ?_|refine zzi fun _ _ => ?_|refine zzj (fun _ => ?_) fun _ => ?_)); (repeat' (refine CW_seq ?_; (repeat' (first|refine zza ?_|refine zc9 ?_|refine zzb fun w hw => ?_|refine zzh fun _ => ?_|refine zzi fun _ _ => ?_|refine zzj (fun _ => ?_) fun _ => ?_)))))
    exact ⟨rfl, hw.below⟩
  have hn1 : 0 < x2.length := by omega
  obtain ⟨x0, hx0⟩ : ∃ x, x2[0]? = some x := ⟨x2[0], by simp [hn1]⟩
  by_cases h9 : x0.op = 9
  · ((repeat' (first|refine zza ?_|refine zc9 ?_|refine zzb fun w hw => ?_|refine zzh fun _ => ?_|refine zzi fun _ _ => ?_|refine zzj (fun _ => ?_) fun _ => ?_)); (repeat' (refine CW_seq ?_; (repeat' (first|refine zza ?_|refine zc9 ?_|refine zzb fun w hw => ?_|refine zzh fun _ => ?_|refine zzi fun _ _ => ?_|refine zzj (fun _ => ?_) fun _ => ?_)))))
    exact ⟨rfl, hw.below⟩
  have hbr := brackets hP hlen fun n r hn => by
    rw [← hx2] at hn
    obtain ⟨y, ys, hy⟩ : ∃ y ys, x2 = y :: ys := by
      cases x2 with
      | nil => simp at hn1
      | cons y ys => exact ⟨y, ys, rfl⟩
    rw [hy] at hx0 hn
    simp only [List.map_cons, List.cons.injEq] at hn
    have : y = x0 := by simpa using hx0
    rw [← hn.1, this]
    exact h9
  have hLpos : 0 < L.length := by
    refine Nat.pos_of_ne_zero fun h0 => ?_
    obtain rfl := List.eq_nil_of_length_eq_zero h0
    have : parseF [] = (1, 0, []) := by kernel_rfl
    rw [this] at hP
    injection hP with hP _
    exact absurd hP (by decide)
  ((repeat' (first|refine zza ?_|refine zc9 ?_|refine zzb fun w hw => ?_|refine zzh fun _ => ?_|refine zzi fun _ _ => ?_|refine zzj (fun _ => ?_) fun _ => ?_)); (repeat' (refine CW_seq ?_; (repeat' (first|refine zza ?_|refine zc9 ?_|refine zzb fun w hw => ?_|refine zzh fun _ => ?_|refine zzi fun _ _ => ?_|refine zzj (fun _ => ?_) fun _ => ?_)))))
  rename_i b7
  refine WL_ent (m' := [sl 30 5 (some ⟨b7, 0, none⟩) 1 1 ([leftT].flatMap tokE), ro u0 [] G2]) (Ent.blkSlN .here rfl rfl (by decide) (Ent.cons .here Ent.nil)) ?_
  apply WL_appendRow (enc := tokE) (sz := 5) (fun _ => rfl) (by decide) (fun x _ u hu => by
    simp only [tokE, List.mem_cons, List.not_mem_nil, or_false] at hu
    rcases hu with rfl | rfl | rfl | rfl | rfl <;> rfl) (hR.mono hle2) hLpos rfl rfl .here (.there .here) (by omega) (by omega) rfl rfl
  intro q3 c3
  ((repeat' (first|refine zza ?_|refine zc9 ?_|refine zzb fun w hw => ?_|refine zzh fun _ => ?_|refine zzi fun _ _ => ?_|refine zzj (fun _ => ?_) fun _ => ?_)); (repeat' (refine CW_seq ?_; (repeat' (first|refine zza ?_|refine zc9 ?_|refine zzb fun w hw => ?_|refine zzh fun _ => ?_|refine zzi fun _ _ => ?_|refine zzj (fun _ => ?_) fun _ => ?_)))))
  rename_i b8 q4 c4
  have hus : 1 + L.length + 1 = (leftT :: (L ++ [rightT])).length := by simp; omega
  rw [hus]
  have hfm : ([leftT].flatMap tokE ++ L.flatMap tokE) ++ tokE rightT = (leftT :: (L ++ [rightT])).flatMap tokE := by simp
  refine WL_ent (m' := [sl 30 5 q4 (leftT :: (L ++ [rightT])).length c4 ((leftT :: (L ++ [rightT])).flatMap tokE), ro u0 [] G2]) (by rw [← hfm]; exact zent) ?_
  refine WL_callA (X := List NodM × Option Addr × Nat) (V := parV (leftT :: (L ++ [rightT]))) (Φ := fun z G => ParA (leftT :: (L ++ [rightT])) z G ∧ Rd.le G2 G) rfl rfl rfl rfl (fun W hW => (parse_law q4 c4 (leftT :: (L ++ [rightT])) W (row_sl (enc := tokE) (fun _ => rfl) (by decide) hW .here).2 (fun x hx => by
    rcases List.mem_cons.1 hx with rfl | hx
    · exact tokOk_lit (.inl rfl)
    · rcases List.mem_append.1 hx with hx | hx
      · exact hT x hx
      · exact tokOk_lit (.inr (.inr (by simpa using hx)))) (hG.below hW.below)).mono fun e w' ⟨z, h1, h2, h3, h4⟩ => ⟨z, h1, h2, h3, Rd.le_trans (hW.le (.there .here)) h4⟩) ?_
  clear hus hfm hR hT hG hLpos hli h9 hn0 hlen
  rintro ⟨x3, q5, k5⟩ G3 ⟨⟨hx3, hr3, hg3⟩, hle3⟩
  unfold parV
  rw [hbr] at hx3
  rw [hbr]
  dsimp only at hx3 hr3 hg3 ⊢
  rw [errV_zero]
  have heq : x3.map NodM.nod = x2.map NodM.nod := by rw [hx3, hx2]
  have hr2' := hr2.mono hle3
  have hX : ∀ x ∈ x3, Row encI 1 G3 x.nums.p x.nums.c x.nums.xs := fun x hx => (hg3 x hx).nums
  have hY : ∀ x ∈ x2, Row encI 1 G3 x.nums.p x.nums.c x.nums.xs := fun x hx => ((hg2 x hx).mono hle3).nums
  clear hx3 hx2 hg2 hg3 hr2 hbr hP hle3 hle2 hx0
  ((repeat' (first|refine zza ?_|refine zc9 ?_|refine zzb fun w hw => ?_|refine zzh fun _ => ?_|refine zzi fun _ _ => ?_|refine zzj (fun _ => ?_) fun _ => ?_)); (repeat' (refine CW_seq ?_; (repeat' (first|refine zza ?_|refine zc9 ?_|refine zzb fun w hw => ?_|refine zzh fun _ => ?_|refine zzi fun _ _ => ?_|refine zzj (fun _ => ?_) fun _ => ?_)))))
  (apply WL_callV; rfl; rfl; rfl; (intro W hW; exact same_Nodes q5 q2 k5 k2 x3 x2 W.cell? W (Rd.sub_cell W) (hr3.mono (hW.le .here)) (hr2'.mono (hW.le .here)) (fun x hx => (hX x hx).mono (hW.le .here)) (fun x hx => (hY x hx).mono (hW.le .here)) heq))
  ((repeat' (first|refine zza ?_|refine zc9 ?_|refine zzb fun w hw => ?_|refine zzh fun _ => ?_|refine zzi fun _ _ => ?_|refine zzj (fun _ => ?_) fun _ => ?_)); (repeat' (refine CW_seq ?_; (repeat' (first|refine zza ?_|refine zc9 ?_|refine zzb fun w hw => ?_|refine zzh fun _ => ?_|refine zzi fun _ _ => ?_|refine zzj (fun _ => ?_) fun _ => ?_)))))
  exact ⟨rfl, hw.below⟩
theorem open_TreeBrackets (x : SlV Tok) (w : World) (s : SlS tokE 5 (fun _ B t => I64 t.num ∧ I64 t.fn ∧ I64 t.kind ∧ I64 t.at_ ∧ t.text.length ≤ B) w 1048576 x) (L : LaidG w) :
    Calls Tryd.prog 3 #[x.val] w fun e w' => e = .returned (.bool true) ∧ Below w.heap.size w w' :=
  law_TreeBrackets x.p x.c x.xs w s.row (fun t ht => ⟨(s.each t ht).1, (s.each t ht).2.1, by have := (s.each t ht).2.2.2.2; omega⟩) L.glob
end Go.Proofs.YtgjmgmejojbdeaaDoor
