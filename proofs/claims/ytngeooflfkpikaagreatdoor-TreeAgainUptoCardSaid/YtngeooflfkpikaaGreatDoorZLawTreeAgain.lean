/-
  What the rows' lists give to those who read: a package's error is one.
  What the rows' lists give to those who read and tell errors.
  The law TreeAgain.
-/
import Derived.Test.YtngeooflfkpikaaGreatDoorZLaidF
import Derived.Test.YtngeooflfkpikaaGreatDoorZBuildL
import Derived.Test.YtngeooflfkpikaaGreatDoorZGo
import Derived.Test.YtngeooflfkpikaaGreatDoorZPrtA
import Derived.Test.YtngeooflfkpikaaGreatDoorZRead1
import Derived.Test.YtngeooflfkpikaaGreatDoorZSameNod
namespace Go.Proofs.YtngeooflfkpikaaGreatDoor
open Go.RowKit Go.Lib
theorem iface_of_reads {P : Program} {W : World} {n nm : String} {d0 : DataW Unit} {g : Nat} {ti : TypeId} {ms : Array (String × TypeId)} (h : VarReads P W n (.iface nm d0)) (hg : P.globalNamed n = some g) (hty : (P.globals[g]?).map (·.type) = some ti) (ht : P.underlying ti = some (.interface ms)) :
    ∃ te pe, W.cell? ⟨g, 0, none⟩ = some (.iface te pe) := by
  obtain ⟨g', t', cs, fuel, p, e1, e2, hvar, hd⟩ := h
  obtain rfl := Option.some.inj (hg.symm.trans e1)
  obtain rfl := Option.some.inj (hty.symm.trans e2)
  have hc := World.var?_cell hg hvar 0
  have key : ∃ u v, cs.toList = [.iface u v] := by
    cases fuel with
    | zero => simp [DataW.trod] at hd
    | succ fuel =>
      simp only [DataW.trod, ht] at hd
      split at hd <;> simp_all
  obtain ⟨u, v, hk⟩ := key
  refine ⟨u, v, ?_⟩
  rw [hc, ← Array.getElem?_toList, hk]
  rfl
theorem gRange : Tryz.prog.globalNamed "strconv.ErrRange" = some 6 := by kernel_rfl
theorem gRangeT : (Tryz.prog.globals[6]?).map (·.type) = some 28 := by kernel_rfl
theorem range_of_reads {W : World} (h : VarReads Tryz.prog W "strconv.ErrRange" Rows.laid_strconv_ErrRange) : ∃ te pe, W.cell? ⟨6, 0, none⟩ = some (.iface te pe) := iface_of_reads h gRange gRangeT Tryz.underlying28
/-- what a law's walk that reads takes of the world -/
structure LaidRd (W : World) : Prop where
  pow : Glob W
  tabs : Tabs W
  maxl : MaxL W
  range : ∃ te pe, W.cell? ⟨6, 0, none⟩ = some (.iface te pe)
theorem LaidRd.glob {W : World} (h : LaidRd W) : GlobA W := ⟨h.pow, h.tabs, h.maxl⟩
theorem LaidRd.lexG {W : World} (h : LaidRd W) : LexG W.cell? := ⟨h.tabs.1, h.tabs.2, h.maxl, h.range⟩
end Go.Proofs.YtngeooflfkpikaaGreatDoor
namespace Go.Proofs.YtngeooflfkpikaaGreatDoor
open Go.RowKit Go.Lib
/-- what a law's walk that reads and tells errors takes of the world -/
structure LaidRH (W : World) : Prop where
  pow : Glob W
  tabs : Tabs W
  maxl : MaxL W
  range : ∃ te pe, W.cell? ⟨6, 0, none⟩ = some (.iface te pe)
  hand : Handle W
theorem LaidRH.glob {W : World} (h : LaidRH W) : GlobA W := ⟨h.pow, h.tabs, h.maxl⟩
theorem LaidRH.lexG {W : World} (h : LaidRH W) : LexG W.cell? := ⟨h.tabs.1, h.tabs.2, h.maxl, h.range⟩
end Go.Proofs.YtngeooflfkpikaaGreatDoor
namespace Go.Proofs.YtngeooflfkpikaaGreatDoor
open Go.RowKit
theorem LexG.below {w w' : World} (h : LexG w.cell?) (hb : Below w.heap.size w w') : LexG w'.cell? := by
  have k : ∀ a v, w.cell? a = some v → w'.cell? a = some v := fun a v e => by rw [World.cell?_of_block (hb.block _ (cell_lt e))]; exact e
  exact ⟨fun c hc => k _ _ (h.first c hc), fun i hi => ⟨k _ _ (h.acc i hi).1, k _ _ (h.acc i hi).2⟩, let ⟨m, hm⟩ := h.maxl; ⟨m, k _ _ hm⟩, let ⟨a, b, hm⟩ := h.range; ⟨a, b, k _ _ hm⟩⟩
/-- what a law knows of what Read told of a text that can be read -/
theorem read_law {src : List UInt8} {a : Int} {us : List Tok} (h : readL src = (0, a, us)) (w : World) (hG : LexG w.cell?) (hl : src.length ≤ 1099511627776) :
    Calls Tryz.prog 17 #[.string ⟨src.toArray⟩] w fun e w' => ∃ x : Option Addr × Nat, e = .returned (.tuple #[.slice x.1 us.length x.2, .int .i64 a, .nilIface]) ∧ Below w.heap.size w w' ∧ (Row tokE 5 w'.cell? x.1 x.2 us ∧ Rd.le w.cell? w'.cell?) :=
  (lex_Read src _ hG w (Rd.sub_cell w) hl).mono fun e w' ⟨p, n, c, h1, h2, h3⟩ => by
    rw [h] at h1 h2 h3
    dsimp only at h1 h2 h3
    subst h2
    have hb := h3.below
    exact ⟨(p, c), by rw [h1, errV_zero], hb, (row_sl (enc := tokE) (fun _ => rfl) (by decide) h3 .here).2, Rd.le_below hb⟩
def numN : Nod := ⟨1, 0, 0, 0, 0, [5], []⟩
def numT : Tok := ⟨1, 0, 5, [], 0⟩
theorem fact_agn : parseF [tokG 2, numT] = (0, 0, [subN, numN]) := by
  have hs : rightN subN = true := by decide +kernel
  have hv : rightN numN = true := by decide +kernel
  have he : exF 0 [subN, numN] = some (.one subN .nil (.leaf numN), []) := exF_iff.2 ⟨⟨⟨hs, rfl, rfl, fun h => (by cases h)⟩, trivial, hv, .inl rfl⟩, rfl⟩
  have hG : treeG [subN, numN] = some (none, .one subN .nil (.leaf numN)) := by
    rw [treeG_cons, if_neg (by rintro ⟨h, _⟩; cases h), he]
  have hF : treeF [subN, numN] = 0 := by
    unfold treeF
    rw [if_neg (by simp), hG]
    rfl
  have hP : printF [subN, numN] = (0, [tokG 2, numT]) := by
    unfold printF
    rw [if_pos hF, hG]
    rfl
  refine (print_back hP fun n hn => ?_).1
  simp only [List.mem_cons, List.not_mem_nil, or_false] at hn
  rcases hn with rfl | rfl
  · exact ⟨by simp [subN], by simp [subN]⟩
  · exact ⟨by simp [numN, I64], by simp [numN]⟩
theorem tok_lit {t : Tok} (h : t ∈ [tokG 2, numT]) : I64 t.num ∧ I64 t.fn ∧ t.text.length ≤ 4294967280 := by
  simp only [List.mem_cons, List.not_mem_nil, or_false] at h
  rcases h with rfl | rfl <;> simp [tokG, numT, I64]
theorem readL_tok {src : List UInt8} {a : Int} {us ts : List Tok} (h : us.map bareT = ts.map bareT) (hT : ∀ t ∈ ts, I64 t.num ∧ I64 t.fn ∧ t.text.length ≤ 4294967280) (_ : readL src = (0, a, us)) : ∀ t ∈ us, I64 t.num ∧ I64 t.fn ∧ t.text.length ≤ 4294967280 := fun t ht => by
  have hb : bareT t ∈ ts.map bareT := by rw [← h]; exact List.mem_map_of_mem ht
  obtain ⟨u, hu, he⟩ := List.mem_map.1 hb
  have := hT u hu
  have e1 : t.num = u.num := show (bareT t).num = (bareT u).num from congrArg Tok.num he.symm
  have e2 : t.fn = u.fn := show (bareT t).fn = (bareT u).fn from congrArg Tok.fn he.symm
  have e3 : t.text = u.text := show (bareT t).text = (bareT u).text from congrArg Tok.text he.symm
  rw [e1, e2, e3]
  exact this
theorem errF_zero : ∀ {us : List Tok}, (∀ u ∈ us, (spellF [u]).2 = 0) → errF us = 0
  | [], _ => rfl
  | t :: r, h => by
    rw [errF, if_pos (spelt_of (h t (.head _)))]
    exact errF_zero fun u hu => h u (.tail _ hu)
theorem spell_all {us : List Tok} (h : ∀ u ∈ us, (spellF [u]).2 = 0) (hl : us.length ≤ 200) : (spellF us).2 = 0 ∨ spellF us = ([], 7) := by
  unfold spellF
  rw [if_neg (by omega), errF_zero h, if_neg (by simp)]
  split
  · exact .inr rfl
  · exact .inl rfl
set_option maxHeartbeats 8000000 in
set_option maxRecDepth 100000 in
theorem law_TreeAgain (p : Option Addr) (c : Nat) (L : List Tok) (u0 : World) (hR : Row tokE 5 u0.cell? p c L) (hT : ∀ t ∈ L, I64 t.num ∧ I64 t.fn ∧ t.text.length ≤ 4294967280) (hG : GlobA u0) (hX : LexG u0.cell?) (hH : Handle u0) :
    Calls Tryz.prog 5 #[.slice p L.length c] u0 fun e w' => e = .returned (.bool true) ∧ Below u0.heap.size u0 w' := by
  have hLl := hR.len
  refine enterR (G := u0.cell?) (args := [_]) (m := []) (F := []) (Rd.sub_cell u0) rfl Tryz.func5 rfl Tryz.ntmps5 (by simp) ?_
  ((repeat' (first|refine zza ?_|refine zc9 ?_|refine zzb fun w hw => ?_|refine zzh fun _ => ?_|refine zzi fun _ _ => ?_|refine zzj (fun _ => ?_) fun _ => ?_)); (repeat' (refine CW_seq ?_; (repeat' (first|refine zza ?_|refine zc9 ?_|refine zzb fun w hw => ?_|refine zzh fun _ => ?_|refine zzi fun _ _ => ?_|refine zzj (fun _ => ?_) fun _ => ?_)))))
  rename_i b2
  refine WL_ent (m' := [blk b2 39 ([tokG 2, numT].flatMap tokE).toArray, ro u0 [] u0.cell?]) (Ent.consK (k := Ent.cons .here Ent.nil) .here) ?_
  refine WL_callA (X := List NodM × Option Addr × Nat) (V := parV [tokG 2, numT]) (Φ := fun z G => ParA [tokG 2, numT] z G ∧ Rd.le u0.cell? G) rfl rfl rfl rfl (fun W hW => (parse_law (some ⟨b2, 0, none⟩) 2 [tokG 2, numT] W (row_blk (enc := tokE) (xs := [tokG 2, numT]) hW .here (fun _ => rfl) (by simp)) (fun x hx => tok_lit hx) (hG.below hW.below)).mono fun e w' ⟨z, h1, h2, h3, h4⟩ => ⟨z, h1, h2, h3, fun a v e => h4 a v (hW.rd (.there .here) e)⟩) ?_
  rintro ⟨x1, q1, k1⟩ G1 ⟨⟨hx1, hr1, hg1⟩, hle1⟩
  unfold parV
  rw [fact_agn] at hx1
  dsimp only at hx1 hr1
  rw [fact_agn]
  dsimp only
  rw [errV_zero]
  obtain ⟨xa, xb, rfl⟩ : ∃ xa xb, x1 = [xa, xb] := by
    have := congrArg List.length hx1
    rw [List.length_map] at this
    match x1, this with
    | [a, b], _ => exact ⟨a, b, rfl⟩
  have hop : xa.op = 6 := by
    simp only [List.map_cons, List.map_nil, List.cons.injEq, and_true] at hx1
    exact congrArg Nod.op hx1.1
  have hx0 : ([xa, xb] : List NodM)[0]? = some xa := rfl
  have h2 : 0 < ([xa, xb] : List NodM).length := by simp
  clear hx1 hg1
  rw [show ([xa, xb] : List NodM).length = 2 from rfl]
  have hRG := hR.mono hle1
  ((repeat' (first|refine zza ?_|refine zc9 ?_|refine zzb fun w hw => ?_|refine zzh fun _ => ?_|refine zzi fun _ _ => ?_|refine zzj (fun _ => ?_) fun _ => ?_)); (repeat' (refine CW_seq ?_; (repeat' (first|refine zza ?_|refine zc9 ?_|refine zzb fun w hw => ?_|refine zzh fun _ => ?_|refine zzi fun _ _ => ?_|refine zzj (fun _ => ?_) fun _ => ?_)))))
  refine WL_callA (X := List NodM × Option Addr × Nat) (V := parV L) (Φ := fun z G => ParA L z G ∧ Rd.le u0.cell? G) rfl rfl rfl rfl (fun W hW => (parse_law p c L W (hRG.mono (hW.le .here)) hT (hG.below hW.below)).mono fun e w' ⟨z, h1, h2, h3, h4⟩ => ⟨z, h1, h2, h3, Rd.le_trans hle1 (Rd.le_trans (hW.le .here) h4)⟩) ?_
  clear hRG hle1 hr1 hx0 h2 hop
  rintro ⟨x2, q2, k2⟩ G2 ⟨⟨hx2, hr2, hg2⟩, hle2⟩
  unfold parV
  obtain ⟨er, at2, ns, hP⟩ : ∃ a b c, parseF L = (a, b, c) := ⟨_, _, _, rfl⟩
  rw [hP] at hx2
  rw [hP]
  dsimp only at hx2 hr2 hg2 ⊢
  by_cases her : er = 0
  case neg =>
    rw [errV_ne her]
    ((repeat' (first|refine zza ?_|refine zc9 ?_|refine zzb fun w hw => ?_|refine zzh fun _ => ?_|refine zzi fun _ _ => ?_|refine zzj (fun _ => ?_) fun _ => ?_)); (repeat' (refine CW_seq ?_; (repeat' (first|refine zza ?_|refine zc9 ?_|refine zzb fun w hw => ?_|refine zzh fun _ => ?_|refine zzi fun _ _ => ?_|refine zzj (fun _ => ?_) fun _ => ?_)))))
    exact ⟨rfl, hw.below⟩
  subst her
  rw [errV_zero]
  have hN : ∀ n ∈ ns, NumsP n := by rw [← hx2]; exact numsP_of hg2
  have hN2 := parse_nums hT hP
  obtain ⟨hF, us, hPr, hul, hsp, hPu⟩ := agn_line hT hN hP
  have hL200 := (parse_ok hP).1
  have htu := (print_back hPr hN).2
  have hN3 : ∀ x ∈ x2, x.nums.xs.length ≤ 1048576 := fun x hx => by
    have := hN2 x.nod (by rw [← hx2]; exact List.mem_map_of_mem hx)
    have : x.nums.xs.length ≤ 200 := this
    omega
  have hPr' : printF (x2.map NodM.nod) = (0, us) := by rw [hx2]; exact hPr
  have hF' : treeF (x2.map NodM.nod) = 0 := by rw [hx2]; exact hF
  clear hR hT hN hN2 hP hF hPr
  ((repeat' (first|refine zza ?_|refine zc9 ?_|refine zzb fun w hw => ?_|refine zzh fun _ => ?_|refine zzi fun _ _ => ?_|refine zzj (fun _ => ?_) fun _ => ?_)); (repeat' (refine CW_seq ?_; (repeat' (first|refine zza ?_|refine zc9 ?_|refine zzb fun w hw => ?_|refine zzh fun _ => ?_|refine zzi fun _ _ => ?_|refine zzj (fun _ => ?_) fun _ => ?_)))))
  refine WL_callA (X := Option Addr × Nat) (V := prtV (x2.map NodM.nod)) (Φ := fun z G => Row tokE 5 G z.1 z.2 (printF (x2.map NodM.nod)).2 ∧ Rd.le G2 G) rfl rfl rfl rfl (fun W hW => (print_law q2 k2 x2 W (hr2.mono (hW.le .here)) (fun x hx => (hg2 x hx).mono (hW.le .here)) hN3 (hG.below hW.below)).mono fun e w' ⟨z, h1, h2, h3, h4⟩ => ⟨z, h1, h2, h3, Rd.le_trans (hW.le .here) h4⟩) ?_
  rintro ⟨q3, k3⟩ G3 ⟨hr3, hle3⟩
  unfold prtV
  rw [hPr'] at hr3 ⊢
  dsimp only at hr3 ⊢
  rw [errV_zero]
  have hr23 := hr2.mono hle3
  have hg23 : ∀ x ∈ x2, NodG G3 x := fun x hx => (hg2 x hx).mono hle3
  clear hr2 hg2 hle2 hle3 hPr' hN3
  ((repeat' (first|refine zza ?_|refine zc9 ?_|refine zzb fun w hw => ?_|refine zzh fun _ => ?_|refine zzi fun _ _ => ?_|refine zzj (fun _ => ?_) fun _ => ?_)); (repeat' (refine CW_seq ?_; (repeat' (first|refine zza ?_|refine zc9 ?_|refine zzb fun w hw => ?_|refine zzh fun _ => ?_|refine zzi fun _ _ => ?_|refine zzj (fun _ => ?_) fun _ => ?_)))))
  refine WL_callA (X := List NodM × Option Addr × Nat) (V := parV us) (Φ := fun z G => ParA us z G ∧ Rd.le G3 G) rfl rfl rfl rfl (fun W hW => (parse_law q3 k3 us W (hr3.mono (hW.le .here)) htu (hG.below hW.below)).mono fun e w' ⟨z, h1, h2, h3, h4⟩ => ⟨z, h1, h2, h3, Rd.le_trans (hW.le .here) h4⟩) ?_
  rintro ⟨x4, q4, k4⟩ G4 ⟨⟨hx4, hr4, hg4⟩, hle4⟩
  unfold parV
  rw [hPu] at hx4 ⊢
  dsimp only at hx4 hr4 hg4 ⊢
  rw [errV_zero]
  have heq : x4.map NodM.nod = x2.map NodM.nod := by rw [hx4, hx2]
  have hr24 := hr23.mono hle4
  have hg24 : ∀ x ∈ x2, NodG G4 x := fun x hx => (hg23 x hx).mono hle4
  have hu4 := hr3.mono hle4
  have hA : ∀ x ∈ x4, Row encI 1 G4 x.nums.p x.nums.c x.nums.xs := fun x hx => (hg4 x hx).nums
  have hB : ∀ x ∈ x2, Row encI 1 G4 x.nums.p x.nums.c x.nums.xs := fun x hx => (hg24 x hx).nums
  clear hx4 hg4 hr23 hg23 hr3 hle4
  ((repeat' (first|refine zza ?_|refine zc9 ?_|refine zzb fun w hw => ?_|refine zzh fun _ => ?_|refine zzi fun _ _ => ?_|refine zzj (fun _ => ?_) fun _ => ?_)); (repeat' (refine CW_seq ?_; (repeat' (first|refine zza ?_|refine zc9 ?_|refine zzb fun w hw => ?_|refine zzh fun _ => ?_|refine zzi fun _ _ => ?_|refine zzj (fun _ => ?_) fun _ => ?_)))))
  (apply WL_callV; rfl; rfl; rfl; (intro W hW; exact same_Nodes q4 q2 k4 k2 x4 x2 W.cell? W (Rd.sub_cell W) (hr4.mono (hW.le .here)) (hr24.mono (hW.le .here)) (fun x hx => (hA x hx).mono (hW.le .here)) (fun x hx => (hB x hx).mono (hW.le .here)) heq))
  clear hA heq hr4
  have hC := fun (W : World) hR hB hG => tree_Check q2 k2 x2 W hR hB hG
  rw [hF', errV_zero] at hC
  ((repeat' (first|refine zza ?_|refine zc9 ?_|refine zzb fun w hw => ?_|refine zzh fun _ => ?_|refine zzi fun _ _ => ?_|refine zzj (fun _ => ?_) fun _ => ?_)); (repeat' (refine CW_seq ?_; (repeat' (first|refine zza ?_|refine zc9 ?_|refine zzb fun w hw => ?_|refine zzh fun _ => ?_|refine zzi fun _ _ => ?_|refine zzj (fun _ => ?_) fun _ => ?_)))))
  (apply WL_callV; rfl; rfl; rfl; (intro W hW; exact hC W (hr24.mono (hW.le .here)) (fun x hx => (hg24 x hx).mono (hW.le .here)) (hG.below hW.below)))
  clear hC hF'
  have hk : ToksOk us := ⟨fun t ht => (htu t ht).1, fun t ht => (htu t ht).2.2⟩
  have hS := fun (W : World) hR hg => lex_Spell q3 k3 us W hR hk hg
  rcases spell_all hsp (by omega) with he | he
  · rw [he, errV_zero] at hS
    obtain ⟨vs, r1, r2⟩ := read_back hk.num he
    have hvl : vs.length = us.length := by have := congrArg List.length r2; simpa using this
    have hPv := parse_bare hPu r2
    have htv := readL_tok r2 htu r1
    have hsl : (spellF us).1.length ≤ 1000 := by
      unfold readL at r1
      by_cases h : 1000 < (spellF us).1.length
      · rw [if_pos h] at r1; simp at r1
      · omega
    clear hPu hsp hk
    ((repeat' (first|refine zza ?_|refine zc9 ?_|refine zzb fun w hw => ?_|refine zzh fun _ => ?_|refine zzi fun _ _ => ?_|refine zzj (fun _ => ?_) fun _ => ?_)); (repeat' (refine CW_seq ?_; (repeat' (first|refine zza ?_|refine zc9 ?_|refine zzb fun w hw => ?_|refine zzh fun _ => ?_|refine zzi fun _ _ => ?_|refine zzj (fun _ => ?_) fun _ => ?_)))))
    (apply WL_callV; rfl; rfl; rfl; (intro W hW; exact hS W (hu4.mono (hW.le .here)) (hG.below hW.below)))
    clear hS
    ((repeat' (first|refine zza ?_|refine zc9 ?_|refine zzb fun w hw => ?_|refine zzh fun _ => ?_|refine zzi fun _ _ => ?_|refine zzj (fun _ => ?_) fun _ => ?_)); (repeat' (refine CW_seq ?_; (repeat' (first|refine zza ?_|refine zc9 ?_|refine zzb fun w hw => ?_|refine zzh fun _ => ?_|refine zzi fun _ _ => ?_|refine zzj (fun _ => ?_) fun _ => ?_)))))
    refine WL_callA (X := Option Addr × Nat) (V := fun x => .tuple #[.slice x.1 vs.length x.2, .int .i64 0, .nilIface]) (Φ := fun z G => Row tokE 5 G z.1 z.2 vs ∧ Rd.le G4 G) rfl rfl rfl rfl (fun W hW => (read_law r1 W (hX.below hW.below) (by omega)).mono fun e w' ⟨z, h1, h2, h3, h4⟩ => ⟨z, h1, h2, h3, Rd.le_trans (hW.le .here) h4⟩) ?_
    rintro ⟨q5, k5⟩ G5 ⟨hr5, hle5⟩
    dsimp only at hr5 ⊢
    have hr25 := hr24.mono hle5
    have hg25 : ∀ x ∈ x2, NodG G5 x := fun x hx => (hg24 x hx).mono hle5
    clear hr24 hg24 hB hu4 hle5 r1 r2 he hvl hsl
    ((repeat' (first|refine zza ?_|refine zc9 ?_|refine zzb fun w hw => ?_|refine zzh fun _ => ?_|refine zzi fun _ _ => ?_|refine zzj (fun _ => ?_) fun _ => ?_)); (repeat' (refine CW_seq ?_; (repeat' (first|refine zza ?_|refine zc9 ?_|refine zzb fun w hw => ?_|refine zzh fun _ => ?_|refine zzi fun _ _ => ?_|refine zzj (fun _ => ?_) fun _ => ?_)))))
    refine WL_callA (X := List NodM × Option Addr × Nat) (V := parV vs) (Φ := fun z G => ParA vs z G ∧ Rd.le G5 G) rfl rfl rfl rfl (fun W hW => (parse_law q5 k5 vs W (hr5.mono (hW.le .here)) htv (hG.below hW.below)).mono fun e w' ⟨z, h1, h2, h3, h4⟩ => ⟨z, h1, h2, h3, Rd.le_trans (hW.le .here) h4⟩) ?_
    rintro ⟨x6, q6, k6⟩ G6 ⟨⟨hx6, hr6, hg6⟩, hle6⟩
    unfold parV
    rw [hPv] at hx6 ⊢
    dsimp only at hx6 hr6 hg6 ⊢
    rw [errV_zero]
    have heq : x6.map NodM.nod = x2.map NodM.nod := by rw [hx6, hx2]
    have hr26 := hr25.mono hle6
    have hA : ∀ x ∈ x6, Row encI 1 G6 x.nums.p x.nums.c x.nums.xs := fun x hx => (hg6 x hx).nums
    have hB : ∀ x ∈ x2, Row encI 1 G6 x.nums.p x.nums.c x.nums.xs := fun x hx => ((hg25 x hx).mono hle6).nums
    clear hx6 hg6 hr25 hg25 hr5 hle6 hPv htv htu
    ((repeat' (first|refine zza ?_|refine zc9 ?_|refine zzb fun w hw => ?_|refine zzh fun _ => ?_|refine zzi fun _ _ => ?_|refine zzj (fun _ => ?_) fun _ => ?_)); (repeat' (refine CW_seq ?_; (repeat' (first|refine zza ?_|refine zc9 ?_|refine zzb fun w hw => ?_|refine zzh fun _ => ?_|refine zzi fun _ _ => ?_|refine zzj (fun _ => ?_) fun _ => ?_)))))
    (apply WL_callV; rfl; rfl; rfl; (intro W hW; exact same_Nodes q6 q2 k6 k2 x6 x2 W.cell? W (Rd.sub_cell W) (hr6.mono (hW.le .here)) (hr26.mono (hW.le .here)) (fun x hx => (hA x hx).mono (hW.le .here)) (fun x hx => (hB x hx).mono (hW.le .here)) heq))
    ((repeat' (first|refine zza ?_|refine zc9 ?_|refine zzb fun w hw => ?_|refine zzh fun _ => ?_|refine zzi fun _ _ => ?_|refine zzj (fun _ => ?_) fun _ => ?_)); (repeat' (refine CW_seq ?_; (repeat' (first|refine zza ?_|refine zc9 ?_|refine zzb fun w hw => ?_|refine zzh fun _ => ?_|refine zzi fun _ _ => ?_|refine zzj (fun _ => ?_) fun _ => ?_)))))
    exact ⟨rfl, hw.below⟩
  · have hE := fun W (h : Handle W) => same_Error 7 7 W h
    rw [he, errV_ne (by decide)] at hS
    rw [errV_ne (by decide)] at hE
    clear hPu hsp hk
    ((repeat' (first|refine zza ?_|refine zc9 ?_|refine zzb fun w hw => ?_|refine zzh fun _ => ?_|refine zzi fun _ _ => ?_|refine zzj (fun _ => ?_) fun _ => ?_)); (repeat' (refine CW_seq ?_; (repeat' (first|refine zza ?_|refine zc9 ?_|refine zzb fun w hw => ?_|refine zzh fun _ => ?_|refine zzi fun _ _ => ?_|refine zzj (fun _ => ?_) fun _ => ?_)))))
    (apply WL_callV; rfl; rfl; rfl; (intro W hW; exact hS W (hu4.mono (hW.le .here)) (hG.below hW.below)))
    ((repeat' (first|refine zza ?_|refine zc9 ?_|refine zzb fun w hw => ?_|refine zzh fun _ => ?_|refine zzi fun _ _ => ?_|refine zzj (fun _ => ?_) fun _ => ?_)); (repeat' (refine CW_seq ?_; (repeat' (first|refine zza ?_|refine zc9 ?_|refine zzb fun w hw => ?_|refine zzh fun _ => ?_|refine zzi fun _ _ => ?_|refine zzj (fun _ => ?_) fun _ => ?_)))))
    (apply WL_callV; rfl; rfl; rfl; (intro W hW; exact hE W (hH.below hW.below)))
    ((repeat' (first|refine zza ?_|refine zc9 ?_|refine zzb fun w hw => ?_|refine zzh fun _ => ?_|refine zzi fun _ _ => ?_|refine zzj (fun _ => ?_) fun _ => ?_)); (repeat' (refine CW_seq ?_; (repeat' (first|refine zza ?_|refine zc9 ?_|refine zzb fun w hw => ?_|refine zzh fun _ => ?_|refine zzi fun _ _ => ?_|refine zzj (fun _ => ?_) fun _ => ?_)))))
    exact ⟨rfl, hw.below⟩
theorem open_TreeAgain (x : SlV Tok) (w : World) (s : SlS tokE 5 (fun _ B t => I64 t.num ∧ I64 t.fn ∧ I64 t.kind ∧ I64 t.at_ ∧ t.text.length ≤ B) w 1048576 x) (L : LaidRH w) :
    Calls Tryz.prog 5 #[x.val] w fun e w' => e = .returned (.bool true) ∧ Below w.heap.size w w' :=
  law_TreeAgain x.p x.c x.xs w s.row (fun t ht => ⟨(s.each t ht).1, (s.each t ht).2.1, Nat.le_trans (s.each t ht).2.2.2.2 (by omega)⟩) L.glob L.lexG L.hand
end Go.Proofs.YtngeooflfkpikaaGreatDoor
