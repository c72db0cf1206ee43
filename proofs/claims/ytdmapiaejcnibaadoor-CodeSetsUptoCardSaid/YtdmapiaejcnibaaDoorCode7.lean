/-
  code: the code of every expression; of a function; of a line.
-/
import Derived.Test.YtdmapiaejcnibaaDoorGo
import Derived.Test.YtdmapiaejcnibaaDoorCode6
namespace Go.Proofs.YtdmapiaejcnibaaDoor
open Go.RowKit

set_option maxHeartbeats 4000000 in
set_option maxRecDepth 100000 in
theorem code_expr_one (m : Nat) (p : Option Addr) (c : Nat) (L : List NodM) (h400 : L.length ≤ 400) (ih : ExC m p c L) (x : Nod) (bs : Exs) (r : Ex) (k d b : Nat) (rest : List Nod) (h : Int) (o q : Option Addr × Nat) (xs : List InsM) (ws : List Wt) (G : Rd) (w : World) (fp : List Nat)
    (hm : (Ex.one x bs r).flat.length ≤ m + 1) (hok : (Ex.one x bs r).ok d) (hL : (L.drop k).map NodM.nod = (Ex.one x bs r).flat ++ rest) (hR : Row nodE 7 G p c L) (hB : ∀ x ∈ L, NodG G x) (hO : Own (mkS b p L.length c h o xs q ws) fp w) (hS : Rd.sub G fp w) (hxs : Bnd xs.length (Ex.one x bs r).flat.length) (hws : Bnd ws.length (Ex.one x bs r).flat.length) :
    Calls Tryd.prog 21 #[.pointer (some ⟨b, 0, none⟩), .int .i64 (k : Int)] w (GotC b p c L h (Ex.one x bs r) k xs ws G w fp) := by
  have hact := fun (W : World) (f1 : List Nat) (hO : Own (mkS b p L.length c h o xs q ws) f1 W) (hS : Rd.sub G f1 W) => code_one m p c L h400 ih x bs r k d b rest h o q xs ws G W f1 hm hok hL hR hB hO hS hxs hws
  obtain ⟨y, hx, hxn, hL1⟩ := nodsAt hL
  have hkL : k < L.length := (List.getElem?_eq_some_iff.1 hx).1
  obtain ⟨op, aop, af, ag, n, nums, text⟩ := y
  obtain ⟨⟨h1, h2, _⟩, _⟩ := hok
  rw [← hxn] at h2
  obtain ⟨hh2, _⟩ : ∃ _ : Unit → op = 6, True := ⟨fun _ => h2, trivial⟩
  refine enterR (G := G) (args := [_, _]) hS hO Tryd.func21 rfl Tryd.ntmps21 (by simp) ?_
  clear hL hL1 hS hO hm hxs hws h2 hxn
  (repeat' (first|refine zza ?_|refine zc9 ?_|refine zzb fun w hw => ?_|refine zzh fun _ => ?_|refine zzi fun _ _ => ?_))
  refine WL_box1 rfl rfl rfl fun bm => ?_
  (repeat' (first|refine zza ?_|refine zc9 ?_|refine zzb fun w hw => ?_|refine zzh fun _ => ?_|refine zzi fun _ _ => ?_))
  rename_i b4
  refine CW_ent (m' := [ro w fp G, mkr b p L.length c (o.1, xs.length, o.2) (q.1, ws.length, q.2) h, outS (o.1, xs.length, o.2) xs, queS q ws, blk b4 35 #[.int .i64 op, .int .i64 aop, .int .i64 af, .int .i64 ag, .int .i64 n, .slice nums.p nums.xs.length nums.c, .string ⟨text.toArray⟩], blk bm 63 #[.pointer (some ⟨b, 0, none⟩)]]) (Ent.cons zpk (Ent.cons zpk (Ent.cons zpk (Ent.cons zpk (Ent.consK (k := Ent.cons .here Ent.nil) .here))))) ?_
  have h2 := hh2 ()
  clear hh2
  subst h2
  (repeat' (first|refine zza ?_|refine zc9 ?_|refine zzb fun w hw => ?_|refine zzh fun _ => ?_|refine zzi fun _ _ => ?_|refine zv1 ?_|refine zv2 ?_|refine zzj (fun _ => ?_) fun _ => ?_))
  refine WL_callG (m1 := mkS b p L.length c h o xs q ws) (r := [blk b4 35 #[.int .i64 6, .int .i64 aop, .int .i64 af, .int .i64 ag, .int .i64 n, .slice nums.p nums.xs.length nums.c, .string ⟨text.toArray⟩], blk bm 63 #[.pointer (some ⟨b, 0, none⟩)]]) (X := Rd × List InsM × (Option Addr × Nat) × (Option Addr × Nat)) (V := fun _ => .tuple #[]) (Gx := fun z => z.1) (M := fun z => mkS b p L.length c h z.2.2.1 (xs ++ z.2.1) z.2.2.2 (ws ++ (Ex.one x bs r).waits xs.length k)) (I := fun z => z.2.1.map InsM.ins = (Ex.one x bs r).code h ∧ ∀ x ∈ z.2.1, InsG z.1 x) zent rfl rfl rfl (fun W fp' hW hO hS hF => hact W fp' hO hS) ?_
  rintro ⟨G1, zs, o1, q1⟩ ⟨hz, hzG⟩ hgr
  dsimp only at hz hzG hgr ⊢
  (repeat' (first|refine zza ?_|refine zc9 ?_|refine zzb fun w hw => ?_|refine zzh fun _ => ?_|refine zzi fun _ _ => ?_|refine zv1 ?_|refine zv2 ?_|refine zzj (fun _ => ?_) fun _ => ?_))
  exact ⟨(G1, zs, o1, q1), ⟨hz, hzG⟩, rfl, hgr, hw.ent zent⟩
set_option maxHeartbeats 4000000 in
set_option maxRecDepth 100000 in
theorem code_expr_two (m : Nat) (p : Option Addr) (c : Nat) (L : List NodM) (h400 : L.length ≤ 400) (ih : ExC m p c L) (x : Nod) (l : Ex) (bs : Exs) (r : Ex) (k d b : Nat) (rest : List Nod) (h : Int) (o q : Option Addr × Nat) (xs : List InsM) (ws : List Wt) (G : Rd) (w : World) (fp : List Nat)
    (hm : (Ex.two x l bs r).flat.length ≤ m + 1) (hok : (Ex.two x l bs r).ok d) (hL : (L.drop k).map NodM.nod = (Ex.two x l bs r).flat ++ rest) (hR : Row nodE 7 G p c L) (hB : ∀ x ∈ L, NodG G x) (hO : Own (mkS b p L.length c h o xs q ws) fp w) (hS : Rd.sub G fp w) (hxs : Bnd xs.length (Ex.two x l bs r).flat.length) (hws : Bnd ws.length (Ex.two x l bs r).flat.length) :
    Calls Tryd.prog 21 #[.pointer (some ⟨b, 0, none⟩), .int .i64 (k : Int)] w (GotC b p c L h (Ex.two x l bs r) k xs ws G w fp) := by
  have hact := fun (W : World) (f1 : List Nat) (hO : Own (mkS b p L.length c h o xs q ws) f1 W) (hS : Rd.sub G f1 W) => code_two m p c L h400 ih x l bs r k d b rest h o q xs ws G W f1 hm hok hL hR hB hO hS hxs hws
  obtain ⟨y, hx, hxn, hL1⟩ := nodsAt hL
  have hkL : k < L.length := (List.getElem?_eq_some_iff.1 hx).1
  obtain ⟨op, aop, af, ag, n, nums, text⟩ := y
  obtain ⟨⟨h1, h2, _⟩, _⟩ := hok
  rw [← hxn] at h2
  obtain ⟨hh2, _⟩ : ∃ _ : Unit → op = 7, True := ⟨fun _ => h2, trivial⟩
  refine enterR (G := G) (args := [_, _]) hS hO Tryd.func21 rfl Tryd.ntmps21 (by simp) ?_
  clear hL hL1 hS hO hm hxs hws h2 hxn
  (repeat' (first|refine zza ?_|refine zc9 ?_|refine zzb fun w hw => ?_|refine zzh fun _ => ?_|refine zzi fun _ _ => ?_))
  refine WL_box1 rfl rfl rfl fun bm => ?_
  (repeat' (first|refine zza ?_|refine zc9 ?_|refine zzb fun w hw => ?_|refine zzh fun _ => ?_|refine zzi fun _ _ => ?_))
  rename_i b4
  refine CW_ent (m' := [ro w fp G, mkr b p L.length c (o.1, xs.length, o.2) (q.1, ws.length, q.2) h, outS (o.1, xs.length, o.2) xs, queS q ws, blk b4 35 #[.int .i64 op, .int .i64 aop, .int .i64 af, .int .i64 ag, .int .i64 n, .slice nums.p nums.xs.length nums.c, .string ⟨text.toArray⟩], blk bm 63 #[.pointer (some ⟨b, 0, none⟩)]]) (Ent.cons zpk (Ent.cons zpk (Ent.cons zpk (Ent.cons zpk (Ent.consK (k := Ent.cons .here Ent.nil) .here))))) ?_
  have h2 := hh2 ()
  clear hh2
  subst h2
  (repeat' (first|refine zza ?_|refine zc9 ?_|refine zzb fun w hw => ?_|refine zzh fun _ => ?_|refine zzi fun _ _ => ?_|refine zv1 ?_|refine zv2 ?_|refine zzj (fun _ => ?_) fun _ => ?_))
  refine WL_callG (m1 := mkS b p L.length c h o xs q ws) (r := [blk b4 35 #[.int .i64 7, .int .i64 aop, .int .i64 af, .int .i64 ag, .int .i64 n, .slice nums.p nums.xs.length nums.c, .string ⟨text.toArray⟩], blk bm 63 #[.pointer (some ⟨b, 0, none⟩)]]) (X := Rd × List InsM × (Option Addr × Nat) × (Option Addr × Nat)) (V := fun _ => .tuple #[]) (Gx := fun z => z.1) (M := fun z => mkS b p L.length c h z.2.2.1 (xs ++ z.2.1) z.2.2.2 (ws ++ (Ex.two x l bs r).waits xs.length k)) (I := fun z => z.2.1.map InsM.ins = (Ex.two x l bs r).code h ∧ ∀ x ∈ z.2.1, InsG z.1 x) zent rfl rfl rfl (fun W fp' hW hO hS hF => hact W fp' hO hS) ?_
  rintro ⟨G1, zs, o1, q1⟩ ⟨hz, hzG⟩ hgr
  dsimp only at hz hzG hgr ⊢
  (repeat' (first|refine zza ?_|refine zc9 ?_|refine zzb fun w hw => ?_|refine zzh fun _ => ?_|refine zzi fun _ _ => ?_|refine zv1 ?_|refine zv2 ?_|refine zzj (fun _ => ?_) fun _ => ?_))
  exact ⟨(G1, zs, o1, q1), ⟨hz, hzG⟩, rfl, hgr, hw.ent zent⟩
theorem code_expression (p : Option Addr) (c : Nat) (L : List NodM) (h400 : L.length ≤ 400) : ∀ m, ExC m p c L := by
  intro m
  induction m with
  | zero => intro e k d b rest h o q xs ws G w fp hm; have := e.flat_pos; omega
  | succ m ih =>
    intro e k d b rest h o q xs ws G w fp hm hok hL hR hB hO hS hxs hws
    cases e with
    | leaf x => exact code_leaf p c L x k d b rest h o q xs ws G w fp hok hL hR hB hO hS (by have := hxs.h; omega)
    | one x bs r => exact code_expr_one m p c L h400 ih x bs r k d b rest h o q xs ws G w fp hm hok hL hR hB hO hS hxs hws
    | two x l bs r => exact code_expr_two m p c L h400 ih x l bs r k d b rest h o q xs ws G w fp hm hok hL hR hB hO hS hxs hws
    | pick x e0 bs => exact code_pick m p c L h400 ih x e0 bs k d b rest h o q xs ws G w fp hm hok hL hR hB hO hS hxs hws
end Go.Proofs.YtdmapiaejcnibaaDoor
