/-
  tree: are nodes a tree?
  What package save's bytes are, told plainly: counts, numbers, values, workspaces; what is written is read, and only that. Of no program.
  The sum of bytes: what it is, and that one byte turned, or two that follow one another, turn it. Of no program.
  What package save's bytes are: values, workspaces; what is written is read, and only that; a beginning is not, nor is it with more behind it.
  Arguments as they come in: workspaces.
  eval.Check: what is wrong with a workspace.
  eval: the value of a line, where no name has a value.
-/
import Derived.Test.YtllgkdkjcbohcaaGreatDoorZGo
import Derived.Test.YtllgkdkjcbohcaaGreatDoorZTree4
import Derived.WalkKit
import Derived.Test.YtllgkdkjcbohcaaGreatDoorZRetC
import Derived.Test.YtllgkdkjcbohcaaGreatDoorZLexPlain
import Derived.Test.YtllgkdkjcbohcaaGreatDoorZOpenNod
import Derived.Test.YtllgkdkjcbohcaaGreatDoorZOpenArr
import Derived.Test.YtllgkdkjcbohcaaGreatDoorZBitL
import Derived.Test.YtllgkdkjcbohcaaGreatDoorZTokRow
import Derived.Test.YtllgkdkjcbohcaaGreatDoorZSpell
import Derived.Test.YtllgkdkjcbohcaaGreatDoorZEvG
namespace Go.Proofs.YtllgkdkjcbohcaaGreatDoor
open Go.RowKit
theorem tree_Check (p : Option Addr) (c : Nat) (L : List NodM) (u0 : World) (hR : Row nodE 7 u0.cell? p c L) (hB : ∀ x ∈ L, NodG u0.cell? x) (hG : GlobA u0) :
    Calls Tryz.prog 17 #[.slice p L.length c] u0 fun e w' => e = .returned (errV 49 (treeF (L.map NodM.nod))) ∧ Below u0.heap.size u0 w' := by
  refine enterR (G := u0.cell?) (args := [_]) (m := []) (F := []) (Rd.sub_cell u0) rfl Tryz.func17 rfl Tryz.ntmps17 (by simp) ?_
  have hread : ∀ W : World, Below u0.heap.size u0 W → Calls Tryz.prog 44 #[.slice p L.length c] W fun e w' => ∃ v : Value, True ∧ e = .returned (.tuple #[v, errV 49 (treeF (L.map NodM.nod))]) ∧ Holds W [] [] w' := fun W hW => by
    have hle : Rd.le u0.cell? W.cell? := fun a v e => (hW.cell (cell_lt e)).trans e
    refine (tree_read p c L W (hR.mono hle) (fun x hx => (hB x hx).mono hle) (hG.below hW)).mono ?_
    rintro e w' (⟨z, ⟨h1, h2, h3⟩, rfl, _, hh⟩ | ⟨h1, rfl, hb⟩)
    · have h0 : treeF (L.map NodM.nod) = 0 := by unfold treeF; rw [List.length_map, if_neg (by omega), h1]; rfl
      exact ⟨z.2.2, trivial, by rw [h0, errV_zero], hh.ent Ent.nil⟩
    · exact ⟨.nilIface, trivial, rfl, ⟨Keep.ofBelow hb, [], rfl, by simp⟩⟩
  (repeat' (first|refine zza ?_|refine zc9 ?_|refine zzb fun w hw => ?_|refine zzh fun _ => ?_|refine zzi fun _ _ => ?_|refine zzj (fun _ => ?_) fun _ => ?_))
  (apply WL_callX; rfl; rfl; rfl; (intro W hW; exact hread W hW.below); intro _ _)
  (repeat' (first|refine zza ?_|refine zc9 ?_|refine zzb fun w hw => ?_|refine zzh fun _ => ?_|refine zzi fun _ _ => ?_|refine zzj (fun _ => ?_) fun _ => ?_))
  exact ⟨rfl, hw.below⟩
end Go.Proofs.YtllgkdkjcbohcaaGreatDoor
namespace Go.Proofs.YtllgkdkjcbohcaaGreatDoor
/-- a workspace's name and value -/
structure Bnd where
  name : List UInt8
  char : Bool
  shape : List Int
  data : List Int
end Go.Proofs.YtllgkdkjcbohcaaGreatDoor
namespace Go.Proofs.YtllgkdkjcbohcaaGreatDoor
end Go.Proofs.YtllgkdkjcbohcaaGreatDoor
namespace Go.Proofs.YtllgkdkjcbohcaaGreatDoor
/-- what is wrong with a workspace -/
def spaceG (seen : List (List UInt8)) : List Bnd → Int
  | [] => 0
  | b :: r => if nameF b.name ≠ 0 then 1 else if b.name ∈ seen then 9 else if checkF b.char b.shape b.data ≠ 0 then checkF b.char b.shape b.data else spaceG (seen ++ [b.name]) r
def spaceF (ws : List Bnd) : Int := if 20 < ws.length then 7 else spaceG [] ws
theorem nameF_len {s : List UInt8} (h : nameF s = 0) : s.length ≤ 12 := by
  unfold nameF at h
  split at h
  · cases h
  · split at h
    · cases h
    · split at h
      · cases h
      · omega
end Go.Proofs.YtllgkdkjcbohcaaGreatDoor
namespace Go.Proofs.YtllgkdkjcbohcaaGreatDoor
open Go.RowKit
/-- a name and its value as they lie in memory -/
structure BindM where
  name : List UInt8
  char : Bool
  shape : SlV Int
  data : SlV Int
instance : Inhabited BindM := ⟨⟨[], false, ⟨none, 0, []⟩, ⟨none, 0, []⟩⟩⟩
def BindM.bnd (b : BindM) : Bnd := ⟨b.name, b.char, b.shape.xs, b.data.xs⟩
def bindE (b : BindM) : List Value := [.string ⟨b.name.toArray⟩, .bool b.char, .slice b.shape.p b.shape.xs.length b.shape.c, .slice b.data.p b.data.xs.length b.data.c]
/-- what the memory behind a name and its value holds -/
def BindS (w : World) (B : Nat) (b : BindM) : Prop := b.name.length ≤ B ∧ SlS encI 1 (fun _ _ i => I64 i) w B b.shape ∧ SlS encI 1 (fun _ _ i => I64 i) w B b.data
set_option maxRecDepth 100000 in
theorem oBind : Opn Tryz.prog 73 BindM bindE BindS := ⟨fun {H en w base spare held fuel cs x B} h hB => by
  obtain ⟨hl, n, hf⟩ := trod_fields Tryz.underlying73 h hB
  obtain ⟨a0, e0, s0⟩ := fld_open oStr hf 0 0 1 rfl (by kernel_rfl)
  obtain ⟨a1, e1, s1⟩ := fld_open oArr hf 1 1 3 rfl (by kernel_rfl)
  have hc : Tryz.prog.cellsOf 73 = 4 := by kernel_rfl
  rw [hc] at hl
  refine ⟨⟨a0, a1.char, a1.shape, a1.data⟩, ?_, s0, s1.1, s1.2⟩
  match cs, hl with
  | [c0, c1, c2, c3], _ =>
    simp [encS] at e0
    simp [arrE] at e1
    simp [bindE, e0, e1]⟩
theorem oBinds : Opn Tryz.prog 40 (SlV BindM) SlV.enc (SlS bindE 4 BindS) := opn_slice oBind Tryz.underlying40 (by kernel_rfl)
end Go.Proofs.YtllgkdkjcbohcaaGreatDoor
namespace Go.Proofs.YtllgkdkjcbohcaaGreatDoor
open Go.RowKit
/-- what a workspace's names and values hold -/
structure BindG (G : Rd) (b : BindM) : Prop where
  name : b.name.length ≤ 4294967280
  shape : Row encI 1 G b.shape.p b.shape.c b.shape.xs
  data : Row encI 1 G b.data.p b.data.c b.data.xs
  shapeR : ∀ n ∈ b.shape.xs, I64 n
  dataR : ∀ n ∈ b.data.xs, I64 n
theorem BindG.mono {G G' : Rd} {b : BindM} (h : BindG G b) (hl : Rd.le G G') : BindG G' b := ⟨h.name, h.shape.mono hl, h.data.mono hl, h.shapeR, h.dataR⟩
theorem ints_row {w : World} {p : Option Addr} {c : Nat} {xs : List Int} (h : Row encI 1 w.cell? p c xs) (hr : ∀ n ∈ xs, I64 n) : IntsAt w p c xs :=
  ⟨h.le, h.max, h.some', fun i x hx => by
    have := h.cell i x hx 0 _ rfl
    rw [Nat.mul_one, add_zero] at this
    exact this, hr⟩
def namesK (ws : List BindM) : List (List UInt8 × Int) := (ws.map (·.name)).zipIdx.map fun q => (q.1, (q.2 : Int))
theorem namesK_fst (ws : List BindM) : (namesK ws).map Prod.fst = ws.map (·.name) := by
  unfold namesK
  rw [List.map_map]
  have : (Prod.fst ∘ fun q : List UInt8 × Nat => (q.1, (q.2 : Int))) = Prod.fst := rfl
  rw [this]
  exact List.zipIdx_map_fst _ _
theorem namesK_snoc {ws : List BindM} {k : Nat} {b : BindM} (h : ws[k]? = some b) : namesK (ws.take (k + 1)) = namesK (ws.take k) ++ [(b.name, (k : Int))] := by
  have hk : k < ws.length := (List.getElem?_eq_some_iff.1 h).1
  unfold namesK
  rw [List.take_add_one, h]
  simp [List.zipIdx_append]
  omega
theorem hasK_names (ws : List BindM) (l : List UInt8) : hasK (namesK ws) l = decide (l ∈ ws.map (·.name)) := by
  rw [Bool.eq_iff_iff, hasK_iff, namesK_fst]; simp
theorem space_step {ws : List BindM} {k : Nat} {b : BindM} (h : ws[k]? = some b) : spaceG ((ws.take k).map (·.name)) ((ws.drop k).map BindM.bnd) =
    if nameF b.name ≠ 0 then 1 else if b.name ∈ (ws.take k).map (·.name) then 9 else if checkF b.char b.shape.xs b.data.xs ≠ 0 then checkF b.char b.shape.xs b.data.xs else spaceG ((ws.take (k + 1)).map (·.name)) ((ws.drop (k + 1)).map BindM.bnd) := by
  rw [drop_cons h, List.map_cons, spaceG]
  have e : (ws.take (k + 1)).map (·.name) = (ws.take k).map (·.name) ++ [b.name] := by rw [List.take_add_one, h]; simp
  rw [e]
  rfl
theorem spell_name (l : List UInt8) : (spellF [⟨3, 0, 0, l, 0⟩]).2 = nameF l := by
  have hb : badTok ⟨3, 0, 0, l, 0⟩ = false := by simp [badTok]
  have hs : speltF ⟨3, 0, 0, l, 0⟩ = (l, nameF l) := by
    unfold speltF
    rw [hb]
    rfl
  unfold spellF
  rw [if_neg (by simp)]
  simp only [errF, hs]
  by_cases h : nameF l = 0
  · rw [if_pos h, if_neg (by simp)]
    have h1 : Lib.join (textsF [⟨3, 0, 0, l, 0⟩]) [32] = l := by unfold textsF; simp [hs, Lib.join]
    rw [h1, if_neg (by have := nameF_len h; omega)]
    exact h.symm
  · rw [if_neg h, if_pos h]
instance mapStr : MapT Tryz.prog 111 := ⟨9, 3, Tryz.underlying111, Tryz.underlying9, fun w => OneT.zero (P := Tryz.prog) (t := 3) w⟩
set_option maxRecDepth 100000 in
theorem eval_Check (p : Option Addr) (c : Nat) (ws : List BindM) (w : World) (hR : Row bindE 4 w.cell? p c ws) (hB : ∀ b ∈ ws, BindG w.cell? b) (hG : GlobA w) :
    Calls Tryz.prog 30 #[.slice p ws.length c] w fun e w' => e = .returned (errV 49 (spaceF (ws.map BindM.bnd))) ∧ Below w.heap.size w w' := by
  have hlen := hR.len
  refine enterR (G := w.cell?) (args := [_]) (m := []) (Rd.sub_cell w) rfl Tryz.func30 rfl Tryz.ntmps30 (by simp) ?_
  by_cases h20 : (20 : Int) < (ws.length : Int)
  · have hs : spaceF (ws.map BindM.bnd) = 7 := by unfold spaceF; rw [if_pos (by simp; omega)]
    rw [hs]
    (repeat' (first|refine zza ?_|refine zc9 ?_|refine zzb fun w hw => ?_|refine zzh fun _ => ?_|refine zzi fun _ _ => ?_|refine zzj (fun _ => ?_) fun _ => ?_))
    exact ⟨rfl, hw.below⟩
  have hs : spaceF (ws.map BindM.bnd) = spaceG [] (ws.map BindM.bnd) := by unfold spaceF; rw [if_neg (by simp; omega)]
  rw [hs]
  clear hs
  obtain ⟨Z, hZ⟩ : ∃ Z, spaceG [] (ws.map BindM.bnd) = Z := ⟨_, rfl⟩
  rw [hZ]
  (repeat' (first|refine zza ?_|refine zc9 ?_|refine zzb fun w hw => ?_|refine zzh fun _ => ?_|refine zzi fun _ _ => ?_|refine zzj (fun _ => ?_) fun _ => ?_))
  apply WL_makeMap rfl rfl
  intro bm
  (repeat' (first|refine zza ?_|refine zc9 ?_|refine zzb fun w hw => ?_|refine zzh fun _ => ?_|refine zzi fun _ _ => ?_|refine zzj (fun _ => ?_) fun _ => ?_))
  refine CW_loopK [(0,_),(3,_),(16,_),(17,_)] zcov (fun x : Nat => [(18, .int .i64 x)]) (fun x => [mp bm (namesK (ws.take x)), ro w [] w.cell?]) (fun x => x ≤ ws.length ∧ spaceG ((ws.take x).map (·.name)) ((ws.drop x).map BindM.bnd) = Z) (fun x => ws.length - x) 0 ⟨Nat.zero_le _, hZ⟩ zcov zent ?_
  rintro k ⟨hk, hz⟩
  by_cases hlt : k < ws.length
  · obtain ⟨x, hx⟩ : ∃ x, ws[k]? = some x := ⟨ws[k], by simp [hlt]⟩
    rw [space_step hx] at hz
    have hb := hB x (List.mem_of_getElem? hx)
    have hhas := hasK_names (ws.take k) x.name
    have hsn := namesK_snoc hx
    generalize namesK (ws.take k) = ks at hhas hsn ⊢
    have hsp := spell_name x.name
    clear hZ
    (repeat' (first|refine zza ?_|refine zc9 ?_|refine zzb fun w hw => ?_|refine zzh fun _ => ?_|refine zzi fun _ _ => ?_|refine zzj (fun _ => ?_) fun _ => ?_))
    rename_i b5 b27
    refine WL_ent (Ent.consK (b' := b27) (cs' := (([⟨3, 0, 0, x.name, 0⟩] : List Tok).flatMap tokE).toArray) (k := Ent.refl) .here) ?_
    (apply WL_callV; rfl; rfl; rfl; (intro W hW; exact lex_Spell (some ⟨b27, 0, none⟩) 1 [⟨3, 0, 0, x.name, 0⟩] W (row_blk (enc := tokE) (xs := [⟨3, 0, 0, x.name, 0⟩]) hW .here (fun _ => rfl) (by simp)) ⟨by simp [I64], by simpa using hb.name⟩ (hG.below hW.below)))
    rw [hsp]
    by_cases hn : nameF x.name = 0
    · rw [if_neg (fun h => h hn)] at hz
      rw [hn, errV_zero]
      (repeat' (first|refine zza ?_|refine zc9 ?_|refine zzb fun w hw => ?_|refine zzh fun _ => ?_|refine zzi fun _ _ => ?_|refine zzj (fun _ => ?_) fun _ => ?_))
      apply WL_op rfl rfl (y_lookup (ks := ks) rfl rfl zpk)
      rw [hhas]
      by_cases hm : x.name ∈ (ws.take k).map (·.name)
      · rw [if_pos hm] at hz
        rw [decide_eq_true hm]
        subst hz
        (repeat' (first|refine zza ?_|refine zc9 ?_|refine zzb fun w hw => ?_|refine zzh fun _ => ?_|refine zzi fun _ _ => ?_|refine zzj (fun _ => ?_) fun _ => ?_))
        exact ⟨by rw [errV_ne (by decide)], hw.below⟩
      · rw [if_neg hm] at hz
        rw [decide_eq_false hm] at hhas ⊢
        (repeat' (first|refine zza ?_|refine zc9 ?_|refine zzb fun w hw => ?_|refine zzh fun _ => ?_|refine zzi fun _ _ => ?_|refine zzj (fun _ => ?_) fun _ => ?_))
        apply WL_mapNew (ks := ks) rfl rfl rfl zpk hhas rfl rfl
        rw [← hsn]
        (repeat' (first|refine zza ?_|refine zc9 ?_|refine zzb fun w hw => ?_|refine zzh fun _ => ?_|refine zzi fun _ _ => ?_|refine zzj (fun _ => ?_) fun _ => ?_))
        (apply WL_callV; rfl; rfl; rfl; (intro W hW; exact arr_Check x.char x.shape.p x.data.p x.shape.c x.data.c x.shape.xs x.data.xs W (ints_row (hb.shape.mono (hW.le (.there (.there (.there .here))))) hb.shapeR) (ints_row (hb.data.mono (hW.le (.there (.there (.there .here))))) hb.dataR)))
        by_cases hc : checkF x.char x.shape.xs x.data.xs = 0
        · rw [if_neg (fun h => h hc)] at hz
          rw [hc, errV_zero]
          (repeat' (first|refine zza ?_|refine zc9 ?_|refine zzb fun w hw => ?_|refine zzh fun _ => ?_|refine zzi fun _ _ => ?_|refine zzj (fun _ => ?_) fun _ => ?_))
          exact EX_loop' (k + 1) ⟨zcov, zent, by omega, by omega, hz⟩
        · rw [if_pos hc] at hz
          subst hz
          rw [errV_ne hc]
          (repeat' (first|refine zza ?_|refine zc9 ?_|refine zzb fun w hw => ?_|refine zzh fun _ => ?_|refine zzi fun _ _ => ?_|refine zzj (fun _ => ?_) fun _ => ?_))
          exact ⟨rfl, hw.below⟩
    · rw [if_pos hn] at hz
      rw [errV_ne hn]
      subst hz
      (repeat' (first|refine zza ?_|refine zc9 ?_|refine zzb fun w hw => ?_|refine zzh fun _ => ?_|refine zzi fun _ _ => ?_|refine zzj (fun _ => ?_) fun _ => ?_))
      exact ⟨by rw [errV_ne (by decide)], hw.below⟩
  · have hkl : k = ws.length := by omega
    subst hkl
    rw [List.drop_length] at hz
    have hz0 : Z = 0 := hz.symm
    subst hz0
    (repeat' (first|refine zza ?_|refine zc9 ?_|refine zzb fun w hw => ?_|refine zzh fun _ => ?_|refine zzi fun _ _ => ?_|refine zzj (fun _ => ?_) fun _ => ?_))
    exact ⟨by rw [errV_zero], hw.below⟩
end Go.Proofs.YtllgkdkjcbohcaaGreatDoor
namespace Go.Proofs.YtllgkdkjcbohcaaGreatDoor
open Go.RowKit
theorem tree_plain {l : List Nod} {e : Ex} (hk : l = e.flat) (hok : e.ok 0) (hl : l.length ≤ 400) (h9 : ∀ n, l[0]? = some n → n.op ≠ 9) : treeF l = 0 := by
  unfold treeF
  rw [if_neg (by omega)]
  have h : exF 0 l = some (e, []) := exF_iff.2 ⟨hok, by rw [hk, List.append_nil]⟩
  cases l with
  | nil => have := e.flat_pos; rw [← hk] at this; cases this
  | cons n r =>
    have ht : treeG (n :: r) = some (none, e) := by rw [treeG_cons, if_neg (fun hh => h9 n rfl hh.1), h]
    rw [ht]
    rfl
set_option maxHeartbeats 16000000 in
set_option maxRecDepth 100000 in
theorem eval_Value0 (Pm : Prims) (p : Option Addr) (c : Nat) (L : List NodM) (N : Nat) (hV : ValC Pm p c L [] noEnv 50 N) (e : Ex) (hN : e.flat.length ≤ N) (hk : L.map NodM.nod = e.flat) (hok : e.ok 0) (hL : L.length ≤ 400) (x0 : NodM) (hx0 : L[0]? = some x0) (h9 : x0.op ≠ 9) (fu : Int) (hI : I64 fu) (G : Rd) (w : World) (hS : Rd.le G w.cell?)
    (hR : Row nodE 7 G p c L) (hn : ∀ x ∈ L, NodG G x) (hG : GlobA w)
    (hB : ∀ v l, evX Pm noEnv (runD Pm noEnv 50) .nil none zeroAr e fu = .ok v l → v.shape.length ≤ 4294967280 ∧ v.data.length ≤ 4294967280) :
    Calls Tryz.prog 23 #[.slice none 0 0, .slice p L.length c, .int .i64 fu] w (Tells voV (VOut (valueR Pm noEnv e fu)) G w) := by
  have hT : treeF (L.map NodM.nod) = 0 := tree_plain hk hok (by rw [List.length_map]; exact hL) (fun n h => by
    rw [List.getElem?_map, hx0] at h
    simp only [Option.map_some, Option.some.injEq] at h
    subst h
    exact h9)
  have hlt : 0 < L.length := (List.getElem?_eq_some_iff.1 hx0).1
  refine enterR (G := G) (args := [_, _, _]) (m := []) (F := []) hS.sub rfl Tryz.func23 rfl Tryz.ntmps23 (by simp) ?_
  have hc1 := fun W (hg : GlobA W) => eval_Check none 0 [] W (Row.nil _ _ _) (fun b hb => by cases hb) hg
  rw [show spaceF (([] : List BindM).map BindM.bnd) = 0 from rfl, errV_zero] at hc1
  have hc2 := fun W (h : Rd.le G W.cell?) (hg : GlobA W) => tree_Check p c L W (hR.mono h) (fun x hx => (hn x hx).mono h) hg
  rw [hT, errV_zero] at hc2
  have hvo := fun W (hS : Rd.sub G [] W) => eval_valueOf0 Pm p c L N hV e hN hk hok fu hI G W (fun a v e => (hS a v e).1) ⟨hR, hn, fun l => rfl, hL⟩ hB
  generalize valueR Pm noEnv e fu = Z at *
  clear hV hB hk hok hN hT
  have hrow := hR
  have hx := hx0
  ((repeat' (first|refine zza ?_|refine zc9 ?_|refine zzb fun w hw => ?_|refine zzh fun _ => ?_|refine zzi fun _ _ => ?_|refine zzj (fun _ => ?_) fun _ => ?_)); (repeat' (refine CW_seq ?_; (repeat' (first|refine zza ?_|refine zc9 ?_|refine zzb fun w hw => ?_|refine zzh fun _ => ?_|refine zzi fun _ _ => ?_|refine zzj (fun _ => ?_) fun _ => ?_)))))
  refine WL_callV rfl rfl rfl (fun W hW => hc1 W (hG.below hW.below)) ?_
  ((repeat' (first|refine zza ?_|refine zc9 ?_|refine zzb fun w hw => ?_|refine zzh fun _ => ?_|refine zzi fun _ _ => ?_|refine zzj (fun _ => ?_) fun _ => ?_)); (repeat' (refine CW_seq ?_; (repeat' (first|refine zza ?_|refine zc9 ?_|refine zzb fun w hw => ?_|refine zzh fun _ => ?_|refine zzi fun _ _ => ?_|refine zzj (fun _ => ?_) fun _ => ?_)))))
  refine WL_callV rfl rfl rfl (fun W hW => hc2 W (hW.le zpk) (hG.below hW.below)) ?_
  ((repeat' (first|refine zza ?_|refine zc9 ?_|refine zzb fun w hw => ?_|refine zzh fun _ => ?_|refine zzi fun _ _ => ?_|refine zzj (fun _ => ?_) fun _ => ?_)); (repeat' (refine CW_seq ?_; (repeat' (first|refine zza ?_|refine zc9 ?_|refine zzb fun w hw => ?_|refine zzh fun _ => ?_|refine zzi fun _ _ => ?_|refine zzj (fun _ => ?_) fun _ => ?_)))))
  rename_i b6
  refine WL_callT (r := [zB b6]) zent rfl rfl rfl hvo ?_
  rintro ⟨z, l, e'⟩ G2 hz g2
  clear hvo
  ((repeat' (first|refine zza ?_|refine zc9 ?_|refine zzb fun w hw => ?_|refine zzh fun _ => ?_|refine zzi fun _ _ => ?_|refine zu1 ?_|refine zu2 ?_|refine zu3 ?_|refine zu4 fun _ => ?_|refine zzj (fun _ => ?_) fun _ => ?_)); (repeat' (refine CW_seq ?_; (repeat' (first|refine zza ?_|refine zc9 ?_|refine zzb fun w hw => ?_|refine zzh fun _ => ?_|refine zzi fun _ _ => ?_|refine zu1 ?_|refine zu2 ?_|refine zu3 ?_|refine zu4 fun _ => ?_|refine zzj (fun _ => ?_) fun _ => ?_)))))
  refine EX_retC3 (b := b6) rfl rfl rfl rfl rfl zpk rfl fun w' hw => ?_
  exact ⟨(z, l, e'), G2, hz, rfl, g2, hw.ent (Ent.cons zpk Ent.nil)⟩
end Go.Proofs.YtllgkdkjcbohcaaGreatDoor
