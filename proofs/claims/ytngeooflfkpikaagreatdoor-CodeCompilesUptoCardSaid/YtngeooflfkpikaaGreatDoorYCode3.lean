/-
  code: numbers are copied; the code of leaves.
-/
import Derived.Test.YtngeooflfkpikaaGreatDoorYGo
import Derived.Test.YtngeooflfkpikaaGreatDoorYMeth
import Derived.Test.YtngeooflfkpikaaGreatDoorYCode1
import Derived.Test.YtngeooflfkpikaaGreatDoorYPar
import Derived.Test.YtngeooflfkpikaaGreatDoorYPerm
import Derived.Test.YtngeooflfkpikaaGreatDoorYShelf
namespace Go.Proofs.YtngeooflfkpikaaGreatDoor
open Go.RowKit
theorem ro_start {w : World} {G : Rd} (hs : Rd.sub G [] w) : Holds w [] [ro w [] G] w :=
  Holds.start ⟨[], [], rfl, ⟨by simp, fun a v e => .inr ⟨cell_lt (hs a v e).1, (hs a v e).2, (hs a v e).1⟩⟩, rfl, by simp⟩
theorem flat_ints (xs : List Int) : xs.flatMap encI = xs.map (Value.int .i64) := by
  induction xs with
  | nil => rfl
  | cons x r ih => rw [List.flatMap_cons, ih]; rfl
theorem clone_G (xs : List Int) (p : Option Addr) (c : Nat) (hne : xs ≠ []) (hlen : xs.length ≤ 4294967280) (G : Rd) (w : World) (hR : Row encI 1 G p c xs) (hS : Rd.sub G [] w) :
    Calls Tryz.prog 75 #[.slice p xs.length c] w fun e w' => ∃ z : Rd × Option Addr × Nat, Row encI 1 z.1 z.2.1 z.2.2 xs ∧ e = .returned (.slice z.2.1 xs.length z.2.2) ∧ Rd.grow w G z.1 ∧ Holds w [] (ro w [] z.1 :: []) w' := by
  have hpos : 0 < xs.length := List.length_pos_iff.2 hne
  have hcell : ∀ i x, xs[i]? = some x → w.cell? (addrAt p i) = some (.int .i64 x) := fun i x hx => by
    have := (hS _ _ (hR.cell i x hx 0 _ rfl)).1
    rw [Nat.mul_one] at this
    rwa [show (addrAt p i).add 0 = addrAt p i from by simp [Addr.add]] at this
  obtain ⟨a, rfl⟩ := Option.isSome_iff_exists.1 (hR.some' hne)
  obtain ⟨b, off, spot⟩ := a
  have hspot : spot = none := by
    cases spot with
    | none => rfl
    | some s =>
      have h0 := hcell 0 _ (List.getElem?_eq_getElem hpos)
      simp [addrAt, Addr.add, World.cell?] at h0
      split at h0 <;> simp at h0
  subst hspot
  refine (Tryz.slices_Clone_int b off xs.length c xs w (Nat.le_refl _) (by omega) fun j hj => ?_).mono ?_
  · have := hcell j _ (List.getElem?_eq_getElem hj)
    have e1 : addrAt (some ⟨b, off, none⟩) j = ⟨b, off + j, none⟩ := add_at b off j
    rw [e1] at this
    rw [this, List.getD_eq_getElem?_getD, List.getElem?_eq_getElem hj]
    rfl
  · rintro e w' ⟨v', rfl, hown, hv, hb⟩
    rw [List.take_length] at hown
    obtain ⟨h1, h2⟩ := hown
    rcases h2 with ⟨_, h0⟩ | ⟨g, cap, cur, rfl, hge, hg, hn, hc, hs, ht⟩
    · omega
    have hH : Holds w [] [sl 3 1 (some ⟨g, 0, none⟩) xs.length cap (xs.flatMap encI)] w' := by
      refine ⟨Keep.ofBelow hb, [g], ⟨[g], [], rfl, ⟨rfl, ?_, .inr ⟨g, cap, cur, rfl, Nat.zero_le _, hg, hn, hc, hs, ?_⟩⟩, rfl, by simp⟩, fun i hi hl => ?_⟩
      · rw [flat_ints, List.length_map, Nat.mul_one]
      · rw [ht, flat_ints]
      · have : i = g := by simpa using hi
        omega
    have hH2 := ((ro_start hS).add hH).ent (m' := [ro w [] G, sl 3 1 (some ⟨g, 0, none⟩) xs.length cap (xs.flatMap encI)]) (Ent.cons (.there .here) (Ent.cons .here Ent.nil))
    obtain ⟨G', g1, g2, g3⟩ := Holds.toRo (α := Int) (enc := encI) (sz := 1) (fun _ => rfl) (by decide) (r := []) hH2 (fun f _ i hi => by cases hi)
    exact ⟨(G', some ⟨g, 0, none⟩, cap), g2, rfl, g1, g3⟩
/-- what the making of an expression's code tells -/
def GotC (b : Nat) (p : Option Addr) (c : Nat) (L : List NodM) (h : Int) (e : Ex) (k : Nat) (xs : List InsM) (ws : List Wt) (G : Rd) (w : World) (fp : List Nat) (en : Ending) (w' : World) : Prop :=
  ∃ z : Rd × List InsM × (Option Addr × Nat) × (Option Addr × Nat), (z.2.1.map InsM.ins = e.code h ∧ ∀ x ∈ z.2.1, InsG z.1 x) ∧ en = .returned (.tuple #[]) ∧ Rd.grow w G z.1 ∧
    Holds w fp (ro w fp z.1 :: mkS b p L.length c h z.2.2.1 (xs ++ z.2.1) z.2.2.2 (ws ++ e.waits xs.length k)) w'
/-- a bound, told so that no other rule looks into it -/
structure Bnd (a b : Nat) : Prop where
  h : a + 1000 * b ≤ 900000000
/-- the contract of making an expression's code, where it has at most m nodes -/
def ExC (m : Nat) (p : Option Addr) (c : Nat) (L : List NodM) : Prop := ∀ (e : Ex) (k d b : Nat) (rest : List Nod) (h : Int) (o q : Option Addr × Nat) (xs : List InsM) (ws : List Wt) (G : Rd) (w : World) (fp : List Nat),
  e.flat.length ≤ m → e.ok d → (L.drop k).map NodM.nod = e.flat ++ rest → Row nodE 7 G p c L → (∀ x ∈ L, NodG G x) → Own (mkS b p L.length c h o xs q ws) fp w → Rd.sub G fp w → Bnd xs.length e.flat.length → Bnd ws.length e.flat.length →
  Calls Tryz.prog 26 #[.pointer (some ⟨b, 0, none⟩), .int .i64 (k : Int)] w (GotC b p c L h e k xs ws G w fp)
set_option maxHeartbeats 4000000 in
set_option maxRecDepth 100000 in
theorem code_leaf (p : Option Addr) (c : Nat) (L : List NodM) (x : Nod) (k d b : Nat) (rest : List Nod) (h : Int) (o q : Option Addr × Nat) (xs : List InsM) (ws : List Wt) (G : Rd) (w : World) (fp : List Nat)
    (hok : (Ex.leaf x).ok d) (hL : (L.drop k).map NodM.nod = (Ex.leaf x).flat ++ rest) (hR : Row nodE 7 G p c L) (hB : ∀ x ∈ L, NodG G x) (hO : Own (mkS b p L.length c h o xs q ws) fp w) (hS : Rd.sub G fp w) (hxs : xs.length ≤ 900000000) :
    Calls Tryz.prog 26 #[.pointer (some ⟨b, 0, none⟩), .int .i64 (k : Int)] w (GotC b p c L h (.leaf x) k xs ws G w fp) := by
  obtain ⟨y, hx, hxn, hL1⟩ := nodsAt hL
  have hkL : k < L.length := (List.getElem?_eq_some_iff.1 hx).1
  have hyB := hB y (List.mem_of_getElem? hx)
  obtain ⟨op, aop, af, ag, n, nums, text⟩ := y
  obtain ⟨h1, h2⟩ := hok
  subst hxn
  dsimp only [NodM.nod] at h1 h2
  refine enterR (G := G) (args := [_, _]) hS hO Tryz.func26 rfl Tryz.ntmps26 (by simp) ?_
  clear hL hL1 hS hO
  (repeat' (first|refine zza ?_|refine zc9 ?_|refine zzb fun w hw => ?_|refine zzh fun _ => ?_|refine zzi fun _ _ => ?_))
  refine WL_box1 rfl rfl rfl fun bm => ?_
  (repeat' (first|refine zza ?_|refine zc9 ?_|refine zzb fun w hw => ?_|refine zzh fun _ => ?_|refine zzi fun _ _ => ?_))
  rename_i b4
  refine CW_ent (m' := ro w fp G :: (mkS b p L.length c h o xs q ws ++ [blk b4 44 #[.int .i64 op, .int .i64 aop, .int .i64 af, .int .i64 ag, .int .i64 n, .slice nums.p nums.xs.length nums.c, .string ⟨text.toArray⟩], blk bm 77 #[.pointer (some ⟨b, 0, none⟩)]])) (Ent.cons zpk (Ent.cons zpk (Ent.cons zpk (Ent.cons zpk (Ent.consK (k := Ent.cons .here Ent.nil) .here))))) ?_
  rcases h2 with rfl | rfl | rfl | ⟨rfl | rfl, _⟩
  · have hne : nums.xs ≠ [] := by
      intro e0
      unfold rightN at h1
      simp only [Bool.and_eq_true] at h1
      have h3 := h1.1.1
      simp [e0] at h3
    refine zza ?_
    refine CW_perm 5 [0, 1, 2, 3, 4] [blk b4 44 #[.int .i64 1, .int .i64 aop, .int .i64 af, .int .i64 ag, .int .i64 n, .slice nums.p nums.xs.length nums.c, .string ⟨text.toArray⟩], blk bm 77 #[.pointer (some ⟨b, 0, none⟩)], queS q ws] [] Cov.nil (pm := [mkr b p L.length c (o.1, xs.length, o.2) (q.1, ws.length, q.2) h, outS (o.1, xs.length, o.2) xs, ro w fp G]) zent (by kernel_rfl) (by decide +kernel) (by kernel_rfl) ?_
    (refine WP_op rfl rfl rfl zyi ?_)
    (refine WP_op rfl rfl rfl zyi ?_)
    (refine WP_op rfl rfl rfl zyi ?_)
    refine WP_callG (m1 := []) (r := [mkr b p L.length c (o.1, xs.length, o.2) (q.1, ws.length, q.2) h, outS (o.1, xs.length, o.2) xs, blk b4 44 #[.int .i64 1, .int .i64 aop, .int .i64 af, .int .i64 ag, .int .i64 n, .slice nums.p nums.xs.length nums.c, .string ⟨text.toArray⟩], blk bm 77 #[.pointer (some ⟨b, 0, none⟩)], queS q ws]) (X := Rd × Option Addr × Nat) (Y := Unit) (V := fun z => .slice z.2.1 nums.xs.length z.2.2) (Gx := fun z => z.1) (M := fun _ => []) (I := fun z => Row encI 1 z.1 z.2.1 z.2.2 nums.xs) (C := fun _ => []) (Gy := fun _ => G) (MP := fun _ => []) (J := fun _ => False) rfl zent (by decide +kernel) rfl rfl rfl (fun W fp' hW hO hS hF => by
      have hf : fp' = [] := hO
      subst hf
      exact (clone_G nums.xs nums.p nums.c hne hyB.numsL G W hyB.nums hS).mono fun e w' h => .inl h) (fun z _ => ⟨[], zent⟩) ?_ ?_
    case refine_2 => exact fun _ h => h.elim
    rintro y hrow hg
    dsimp only at hrow hg ⊢
    (refine WP_op rfl rfl rfl zyi ?_)
    refine WP_end ?_
    (repeat' (first|refine zza ?_|refine zc9 ?_|refine zzb fun w hw => ?_|refine zzh fun _ => ?_|refine zzi fun _ _ => ?_|refine zzj (fun _ => ?_) fun _ => ?_))
    refine WL_callUX (m1 := [mkr b p L.length c (o.1, xs.length, o.2) (q.1, ws.length, q.2) h, outS (o.1, xs.length, o.2) xs]) (r := [queS q ws, blk b4 44 #[.int .i64 1, .int .i64 aop, .int .i64 af, .int .i64 ag, .int .i64 n, .slice nums.p nums.xs.length nums.c, .string ⟨text.toArray⟩], blk bm 77 #[.pointer (some ⟨b, 0, none⟩)]]) zent rfl rfl rfl (fun W fp' hO hS => code_put y.1 b p L.length c o (q.1, ws.length, q.2) h xs ⟨1, 0, 0, 0, 0, 0, ⟨y.2.1, y.2.2, nums.xs⟩, []⟩ W fp' hO hS (by omega)) ?_
    rintro z _
    (repeat' (first|refine zza ?_|refine zc9 ?_|refine zzb fun w hw => ?_|refine zzh fun _ => ?_|refine zzi fun _ _ => ?_|refine zzj (fun _ => ?_) fun _ => ?_))
    exact ⟨(y.1, [⟨1, 0, 0, 0, 0, 0, ⟨y.2.1, y.2.2, nums.xs⟩, []⟩], z, q), ⟨by rfl, fun x hx => by rw [List.mem_singleton.1 hx]; exact ⟨by simp, hrow, hyB.numsL⟩⟩, rfl, hg, hw.ent (by rw [show ws ++ (Ex.leaf (NodM.nod ⟨1, aop, af, ag, n, nums, text⟩)).waits xs.length k = ws from List.append_nil _]; exact zent)⟩
  · (repeat' (first|refine zza ?_|refine zc9 ?_|refine zzb fun w hw => ?_|refine zzh fun _ => ?_|refine zzi fun _ _ => ?_|refine zzj (fun _ => ?_) fun _ => ?_))
    refine WL_callUX (m1 := [mkr b p L.length c (o.1, xs.length, o.2) (q.1, ws.length, q.2) h, outS (o.1, xs.length, o.2) xs]) (r := [queS q ws, blk b4 44 #[.int .i64 2, .int .i64 aop, .int .i64 af, .int .i64 ag, .int .i64 n, .slice nums.p nums.xs.length nums.c, .string ⟨text.toArray⟩], blk bm 77 #[.pointer (some ⟨b, 0, none⟩)]]) zent rfl rfl rfl (fun W fp' hO hS => code_put G b p L.length c o (q.1, ws.length, q.2) h xs ⟨2, 0, 0, 0, 0, 0, ⟨none, 0, []⟩, text⟩ W fp' hO hS (by omega)) ?_
    rintro z _
    (repeat' (first|refine zza ?_|refine zc9 ?_|refine zzb fun w hw => ?_|refine zzh fun _ => ?_|refine zzi fun _ _ => ?_|refine zzj (fun _ => ?_) fun _ => ?_))
    exact ⟨(G, [⟨2, 0, 0, 0, 0, 0, ⟨none, 0, []⟩, text⟩], z, q), ⟨by rfl, fun x hx => by rw [List.mem_singleton.1 hx]; exact ⟨hyB.text, Row.nil _ _ _, by simp⟩⟩, rfl, Rd.grow_refl _ _, hw.ent (by rw [show ws ++ (Ex.leaf (NodM.nod ⟨2, aop, af, ag, n, nums, text⟩)).waits xs.length k = ws from List.append_nil _]; exact zent)⟩
  · (repeat' (first|refine zza ?_|refine zc9 ?_|refine zzb fun w hw => ?_|refine zzh fun _ => ?_|refine zzi fun _ _ => ?_|refine zzj (fun _ => ?_) fun _ => ?_))
    refine WL_callUX (m1 := [mkr b p L.length c (o.1, xs.length, o.2) (q.1, ws.length, q.2) h, outS (o.1, xs.length, o.2) xs]) (r := [queS q ws, blk b4 44 #[.int .i64 3, .int .i64 aop, .int .i64 af, .int .i64 ag, .int .i64 n, .slice nums.p nums.xs.length nums.c, .string ⟨text.toArray⟩], blk bm 77 #[.pointer (some ⟨b, 0, none⟩)]]) zent rfl rfl rfl (fun W fp' hO hS => code_put G b p L.length c o (q.1, ws.length, q.2) h xs ⟨3, 0, 0, 0, 0, 0, ⟨none, 0, []⟩, text⟩ W fp' hO hS (by omega)) ?_
    rintro z _
    (repeat' (first|refine zza ?_|refine zc9 ?_|refine zzb fun w hw => ?_|refine zzh fun _ => ?_|refine zzi fun _ _ => ?_|refine zzj (fun _ => ?_) fun _ => ?_))
    exact ⟨(G, [⟨3, 0, 0, 0, 0, 0, ⟨none, 0, []⟩, text⟩], z, q), ⟨by rfl, fun x hx => by rw [List.mem_singleton.1 hx]; exact ⟨hyB.text, Row.nil _ _ _, by simp⟩⟩, rfl, Rd.grow_refl _ _, hw.ent (by rw [show ws ++ (Ex.leaf (NodM.nod ⟨3, aop, af, ag, n, nums, text⟩)).waits xs.length k = ws from List.append_nil _]; exact zent)⟩
  · (repeat' (first|refine zza ?_|refine zc9 ?_|refine zzb fun w hw => ?_|refine zzh fun _ => ?_|refine zzi fun _ _ => ?_|refine zzj (fun _ => ?_) fun _ => ?_))
    refine WL_callUX (m1 := [mkr b p L.length c (o.1, xs.length, o.2) (q.1, ws.length, q.2) h, outS (o.1, xs.length, o.2) xs]) (r := [queS q ws, blk b4 44 #[.int .i64 4, .int .i64 aop, .int .i64 af, .int .i64 ag, .int .i64 n, .slice nums.p nums.xs.length nums.c, .string ⟨text.toArray⟩], blk bm 77 #[.pointer (some ⟨b, 0, none⟩)]]) zent rfl rfl rfl (fun W fp' hO hS => code_put G b p L.length c o (q.1, ws.length, q.2) h xs ⟨4, 0, 0, 0, 0, 0, ⟨none, 0, []⟩, []⟩ W fp' hO hS (by omega)) ?_
    rintro z _
    (repeat' (first|refine zza ?_|refine zc9 ?_|refine zzb fun w hw => ?_|refine zzh fun _ => ?_|refine zzi fun _ _ => ?_|refine zzj (fun _ => ?_) fun _ => ?_))
    exact ⟨(G, [⟨4, 0, 0, 0, 0, 0, ⟨none, 0, []⟩, []⟩], z, q), ⟨by rfl, fun x hx => by rw [List.mem_singleton.1 hx]; exact ⟨by simp, Row.nil _ _ _, by simp⟩⟩, rfl, Rd.grow_refl _ _, hw.ent (by rw [show ws ++ (Ex.leaf (NodM.nod ⟨4, aop, af, ag, n, nums, text⟩)).waits xs.length k = ws from List.append_nil _]; exact zent)⟩
  · (repeat' (first|refine zza ?_|refine zc9 ?_|refine zzb fun w hw => ?_|refine zzh fun _ => ?_|refine zzi fun _ _ => ?_|refine zzj (fun _ => ?_) fun _ => ?_))
    refine WL_callUX (m1 := [mkr b p L.length c (o.1, xs.length, o.2) (q.1, ws.length, q.2) h, outS (o.1, xs.length, o.2) xs]) (r := [queS q ws, blk b4 44 #[.int .i64 5, .int .i64 aop, .int .i64 af, .int .i64 ag, .int .i64 n, .slice nums.p nums.xs.length nums.c, .string ⟨text.toArray⟩], blk bm 77 #[.pointer (some ⟨b, 0, none⟩)]]) zent rfl rfl rfl (fun W fp' hO hS => code_put G b p L.length c o (q.1, ws.length, q.2) h xs ⟨5, 0, 0, 0, 0, 0, ⟨none, 0, []⟩, []⟩ W fp' hO hS (by omega)) ?_
    rintro z _
    (repeat' (first|refine zza ?_|refine zc9 ?_|refine zzb fun w hw => ?_|refine zzh fun _ => ?_|refine zzi fun _ _ => ?_|refine zzj (fun _ => ?_) fun _ => ?_))
    exact ⟨(G, [⟨5, 0, 0, 0, 0, 0, ⟨none, 0, []⟩, []⟩], z, q), ⟨by rfl, fun x hx => by rw [List.mem_singleton.1 hx]; exact ⟨by simp, Row.nil _ _ _, by simp⟩⟩, rfl, Rd.grow_refl _ _, hw.ent (by rw [show ws ++ (Ex.leaf (NodM.nod ⟨5, aop, af, ag, n, nums, text⟩)).waits xs.length k = ws from List.append_nil _]; exact zent)⟩
end Go.Proofs.YtngeooflfkpikaaGreatDoor
