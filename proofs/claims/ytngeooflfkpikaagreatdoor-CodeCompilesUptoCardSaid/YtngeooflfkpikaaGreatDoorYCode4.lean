/-
  Append to a queue within a drawn region. Of no program.
  code: the code of a function's application.
  code: the code of a function's application to two.
-/
import Derived.Test.YtngeooflfkpikaaGreatDoorYQue
import Derived.Test.YtngeooflfkpikaaGreatDoorYPerm
import Derived.Test.YtngeooflfkpikaaGreatDoorYGo
import Derived.Test.YtngeooflfkpikaaGreatDoorYCode3
namespace Go.Proofs.YtngeooflfkpikaaGreatDoor
open Go.RowKit
section
variable {P : Program} {K : Cx} {ρ ρp : Env} {m r m0 : List HP} {ty t e : TypeId} {pos : String} {aft : Array Edge} {g : Option (Nat × Bool)} {x y : Operand} {ops : Array Oper} {Q : Exit → Act → World → Prop} {d sz n c bytes k : Nat} {zs xs : List Value} {p : Option Addr} {rest : List Nat} {listed : Array Bool} {L : Act → Cl → Prop} {E : List PanicEntry → World → Prop}
theorem run_appendQ [S : ElT P t e sz zs bytes] {p' : Option Addr} {b n' c' : Nat} {cs : Array Value} {m1 : List HP} (hx : opv ρ x = some (.slice p n c)) (hy : opv ρ y = some (.slice p' n' c')) (he : p' = some ⟨b, 0, none⟩)
    (hp : Pick m (sq e sz p n c xs) m1) (hp2 : Pick m1 (blk b e cs) r) (hl : cs.size = n' * sz) (h1' : cs.toList.all Value.oneCell' = true) (hmax : (n + n') * bytes ≤ 140737488355328) (hmax2 : n + n' ≤ 140737488355328)
    {a : Act} {w : World} (hf : Fits K.N K.D a ρ) (hm : Holds K.w0 K.F m w) : ∃ q c'' w', (execOp a.eval ⟨some d, .call ⟨.builtin .append, #[x, y], #[t, t]⟩, ty, pos, aft, g⟩).run P w = .ok (.value (.slice q (n + n') c'')) w' ∧ Holds K.w0 K.F (sq e sz q (n + n') c'' (xs ++ cs.toList) :: r) w' := by
  obtain ⟨i, z, hi, hz, hsz, hby, hzs⟩ := S.info
  have h1 : ∀ u ∈ cs.toList, u.oneCell' = true := fun u hu => (List.all_eq_true.1 h1') u hu
  obtain ⟨hxl, hown⟩ := hm.sqR hp
  obtain ⟨fp, ⟨hfp, _⟩, _, hsp⟩ := hm.split hp
  have hb : w.heap[b]? = some (.cells cs e (0, 0)) := by
    have h2 := hsp [] w ⟨Keep.refl _ _, [], rfl, by simp⟩
    exact h2.blk hp2
  subst he
  have hnews : ∀ (j : Nat) u, cs.toList[j]? = some u → w.cell? ((⟨b, 0, none⟩ : Addr).add j) = some u := fun j u hu => by
    rw [add_at, Nat.zero_add]; simp only [World.cell?, hb]; simpa using hu
  have hzl : z.cells.size = sz := by rw [hzs]; simp [S.len]
  have hlen : (xs ++ cs.toList).length = (n + n') * sz := by rw [List.length_append, hxl, Nat.add_mul]; simp [hl]
  -- a new block
  have newB : ∀ (w' : World) (q : Option Addr) (c'' : Nat), (Builtin.append_ #[t, t] ty #[.slice p n c, .slice (some ⟨b, 0, none⟩) n' c']).run P w = .ok (.slice q (n + n') c'') w' → Below w.heap.size w w' → (sq e sz q (n + n') c'' (xs ++ cs.toList)).p w' (blkOf q) → (∀ i ∈ blkOf q, w.heap.size ≤ i) →
      ∃ q c'' w', (execOp a.eval ⟨some d, .call ⟨.builtin .append, #[x, y], #[t, t]⟩, ty, pos, aft, g⟩).run P w = .ok (.value (.slice q (n + n') c'')) w' ∧ Holds K.w0 K.F (sq e sz q (n + n') c'' (xs ++ cs.toList) :: r) w' := by
    intro w' q c'' hr hbl hq hfresh
    refine ⟨q, c'', w', run_bi hf hx hy hr, ?_⟩
    have hH : Holds w fp [sq e sz q (n + n') c'' (xs ++ cs.toList)] w' :=
      ⟨Keep.ofBelow hbl, blkOf q, ⟨blkOf q, [], by simp, hq, rfl, by simp⟩, fun i hi hl => by have := hfresh i hi; omega⟩
    exact (hsp _ w' hH).ent (Ent.sub (r2 := r) hp2)
  rcases hown with ⟨rfl, rfl, rfl⟩ | ⟨gg, off, cur, rfl, hgg, hnc, hcm, hcs, htake⟩
  · have hx0 : xs = [] := List.eq_nil_of_length_eq_zero (by simpa using hxl)
    subst hx0
    obtain ⟨v', w', hr, h2, h3, _⟩ := run_append_own (P := P) w w.heap.size t ty e i z sz bytes S.und hi hz hsz hby hzl S.pos (.slice none 0 0) 0 [] ⟨by simp, .inl ⟨rfl, rfl⟩⟩ ⟨b, 0, none⟩ n' c' cs.toList (by simpa using hl) hnews h1 (by unfold maxLen; omega) hmax (Nat.le_refl _)
    rcases h2.2 with ⟨hv, h0⟩ | ⟨g2, cap, cur, hv, hge, hg2, hn2, hc2, hs2, ht2⟩
    · subst hv
      refine newB w' none 0 (by rw [hr, h0]) ?_ ⟨rfl, hlen, .inl ⟨rfl, h0, rfl⟩⟩ (by simp [blkOf])
      exact ⟨h3.os, h3.tape, h3.output, h3.size, fun k hk => h3.block k hk (by simp [Value.ownBlock])⟩
    · subst hv
      refine newB w' _ _ hr ⟨h3.os, h3.tape, h3.output, h3.size, fun k hk => h3.block k hk (by simp [Value.ownBlock])⟩ ⟨rfl, hlen, .inr ⟨g2, 0, cur, rfl, hg2, hn2, hc2, by omega, by rw [List.drop_zero]; exact ht2⟩⟩ ?_
      intro i hi
      have : i = g2 := by simpa [blkOf] using hi
      omega
  · subst hsz
    subst hby
    by_cases hroom : n + n' ≤ c
    · have hfit : off + n * i.size + cs.toList.length ≤ cur.size := by
        have h5 : (n + n') * i.size ≤ c * i.size := Nat.mul_le_mul_right _ hroom
        rw [Nat.add_mul] at h5
        simp [hl]; omega
      have hfc := run_firstCells_some (P := P) w i.size n' ⟨b, 0, none⟩ n' c' cs.toList (by simpa using hl) hnews
      have hst := run_storeCells_at P gg (off + n * i.size) e cs.toList 0 cur w hgg (by simpa using hfit) h1
      simp only [Nat.add_zero] at hst
      have hr : (Builtin.append_ #[t, t] ty #[.slice (some ⟨gg, off, none⟩) n c, .slice (some ⟨b, 0, none⟩) n' c']).run P w = .ok (.slice (some ⟨gg, off, none⟩) (n + n') c) (w.setRow gg (cur.toList.take (off + n * i.size) ++ cs.toList ++ cur.toList.drop (off + n * i.size + cs.toList.length)).toArray) := by
        simp [Builtin.append_, run_underlying S.und, sizeOf, typeInfo, hi, Builtin.lenOf, hroom, hfc, Addr.add_lit, hst]
      refine ⟨_, c, _, run_bi hf hx hy hr, ?_⟩
      have hlt : gg < w.heap.size := (Array.getElem?_eq_some_iff.1 hgg).1
      have hH : Holds w fp [sq e i.size (some ⟨gg, off, none⟩) (n + n') c (xs ++ cs.toList)] (w.setRow gg (cur.toList.take (off + n * i.size) ++ cs.toList ++ cur.toList.drop (off + n * i.size + cs.toList.length)).toArray) := by
        refine ⟨⟨rfl, rfl, rfl, by simp [World.setRow], fun k _ hF => ?_⟩, [gg], ⟨[gg], [], by simp, ⟨rfl, hlen, .inr ⟨gg, off, (cur.toList.take (off + n * i.size) ++ cs.toList ++ cur.toList.drop (off + n * i.size + cs.toList.length)).toArray, rfl, ?_, hroom, hcm, ?_, ?_⟩⟩, rfl, by simp⟩, fun i hi _ => by rw [hfp]; exact hi⟩
        · have hne : gg ≠ k := by rw [hfp] at hF; intro h; exact hF (by simp [blkOf, h])
          simp [World.setRow, Array.getElem?_modify, hne]
        · simp [World.setRow, Array.getElem?_modify, hgg]
        · simp at hfit ⊢; omega
        · have hA : (cur.toList.take (off + n * i.size)).length = off + n * i.size := by simp at hfit ⊢; omega
          simp only [List.append_assoc]
          rw [List.drop_append_of_le_length (by rw [hA]; omega), List.drop_take, Nat.add_sub_cancel_left, htake, ← List.append_assoc, ← hlen, List.take_left]
      exact (hsp _ _ hH).ent (Ent.sub (r2 := r) hp2)
    · have holds : ∀ j u, xs[j]? = some u → w.cell? ((⟨gg, off, none⟩ : Addr).add j) = some u := fun j u hu => by
        rw [add_at]
        have hj : j < xs.length := (List.getElem?_eq_some_iff.1 hu).1
        rw [← htake, List.getElem?_take, if_pos (by omega), List.getElem?_drop] at hu
        simp only [World.cell?, hgg]
        simpa using hu
      have hr := run_append_grow (P := P) w t ty e i z S.und hi hz ⟨gg, off, none⟩ n c xs hxl holds ⟨b, 0, none⟩ n' c' cs.toList (by simpa using hl) hnews (by omega) (by omega) (growslice_fits (by omega) hmax)
      refine newB _ _ _ hr (((Below.refl _ _).drew).alloc (Nat.le_refl _) _) ⟨rfl, hlen, .inr ⟨w.heap.size, 0, xs.toArray ++ cs.toList.toArray ++ Builtin.zeroCells z.cells (grownCap w (n + n') c e - (n + n')), rfl, ?_, grownCap_ge _ _ _ _, grownCap_le_maxLen _ _ _ _ (by unfold maxLen; omega), ?_, ?_⟩⟩ ?_
      · show (w.heap.push _)[w.heap.size]? = _
        simp
      · have hge := grownCap_ge w (n + n') c e
        have hsz : (xs.toArray ++ cs.toList.toArray).size = (n + n') * i.size := by rw [← hlen]; simp
        rw [Array.size_append, hsz, size_zeroCells, hzl, ← Nat.add_mul, Nat.zero_add, Nat.add_sub_cancel' hge]
        exact Nat.le_refl _
      · rw [List.drop_zero]
        have : (xs.toArray ++ cs.toList.toArray ++ Builtin.zeroCells z.cells (grownCap w (n + n') c e - (n + n'))).toList = (xs ++ cs.toList) ++ (Builtin.zeroCells z.cells (grownCap w (n + n') c e - (n + n'))).toList := by simp
        rw [this, ← hlen, List.take_left]
      · intro i hi
        have : i = w.heap.size := by simpa [blkOf] using hi
        omega
theorem WP_appendQ [S : ElT P t e sz zs bytes] {pm : List HP} {p' : Option Addr} {b n' c' : Nat} {cs : Array Value} {m1 : List HP} (hk : ops[k]? = some ⟨some d, .call ⟨.builtin .append, #[x, y], #[t, t]⟩, ty, pos, aft, g⟩) (hso : soleB .any ops listed k = true) (hx : opv ρ x = some (.slice p n c)) (hy : opv ρ y = some (.slice p' n' c')) (he : p' = some ⟨b, 0, none⟩)
    (hp : Pick m (sq e sz p n c xs) m1) (hp2 : Pick m1 (blk b e cs) r) (hr : Ent r (pm ++ m0)) (hl : cs.size = n' * sz) (h1' : cs.toList.all Value.oneCell' = true) (hmax : (n + n') * bytes ≤ 140737488355328) (hmax2 : n + n' ≤ 140737488355328)
    (hg : guardB ops g ρ = some true) (hn : (guardN K.N ops g && Nat.blt d K.N) = true) (k' : ∀ q c'', WP P K E ops L m0 rest (listed.setIfInBounds k true) ((d, .slice q (n + n') c'') :: ρ) (sq e sz q (n + n') c'' (xs ++ cs.toList) :: r)) :
    WP P K E ops L m0 (k :: rest) listed ρ m := by
  refine ⟨fun a hf => ?_⟩
  simp only [Bool.and_eq_true] at hn
  unfold wpHeadP
  rw [hk]
  simp only
  unfold headP
  rw [if_pos (guard_wanted hf hg (guardN_spec hn.1))]
  refine .inr ⟨hso, Option Addr × Nat, fun z => .slice z.1 (n + n') z.2, fun z => Holds K.w0 K.F (sq e sz z.1 (n + n') z.2 (xs ++ cs.toList) :: r), fun x => Holds.closed _ _ _, fun z W hW => ((Holds.drop (m1 := [sq e sz z.1 (n + n') z.2 (xs ++ cs.toList)]) hW).ent hr).drop, fun w hm => ?_, fun z => (k' z.1 z.2).run _ (hf.put (blt_lt hn.2) _)⟩
  obtain ⟨q, c'', w', h1, h2⟩ := run_appendQ (P := P) (K := K) (t := t) (ty := ty) (pos := pos) (aft := aft) (g := g) (zs := zs) hx hy he hp hp2 hl h1' hmax hmax2 hf hm
  rw [h1]
  exact ⟨(q, c''), rfl, h2⟩
end
end Go.Proofs.YtngeooflfkpikaaGreatDoor
namespace Go.Proofs.YtngeooflfkpikaaGreatDoor
open Go.RowKit
mutual
theorem Ex.code_le : ∀ e : Ex, (e.code 0).length ≤ e.flat.length
  | .leaf _ => Nat.le_refl _
  | .one _ b r => by have := Ex.code_le r; simp only [Ex.code, Ex.flat, List.length_append, List.length_cons, List.length_nil]; omega
  | .two _ l b r => by have := Ex.code_le r; have := Ex.code_le l; simp only [Ex.code, Ex.flat, List.length_append, List.length_cons, List.length_nil]; omega
  | .pick _ o b => by have := Ex.code_le o; have := Exs.codeR_le b; simp only [Ex.code, Ex.flat, List.length_append, List.length_cons, List.length_nil]; omega
theorem Exs.codeR_le : ∀ b : Exs, (b.codeR 0).length ≤ b.flat.length
  | .nil => Nat.le_refl _
  | .cons e r => by have := Ex.code_le e; have := Exs.codeR_le r; simp only [Exs.codeR, Exs.flat, List.length_append]; omega
end
theorem actW_le (n : Nod) (b : Exs) (p k : Nat) : (actW n b p k).length ≤ 1 := by unfold actW; split <;> simp
mutual
theorem Ex.waits_le : ∀ (e : Ex) (o p : Nat), (e.waits o p).length ≤ e.flat.length
  | .leaf _, _, _ => by simp [Ex.waits]
  | .one n b r, o, p => by have := Ex.waits_le r o (p + 1 + b.flat.length); have := actW_le n b (p + 1) (o + (r.code 0).length); simp only [Ex.waits, Ex.flat, List.length_append, List.length_cons]; omega
  | .two n l b r, o, p => by
    have := Ex.waits_le r o (p + 1 + l.flat.length + b.flat.length)
    have := Ex.waits_le l (o + (r.code 0).length) (p + 1)
    have := actW_le n b (p + 1 + l.flat.length) (o + (r.code 0).length + (l.code 0).length)
    simp only [Ex.waits, Ex.flat, List.length_append, List.length_cons]; omega
  | .pick _ e b, o, p => by
    have := Exs.waitsR_le b o (p + 1 + e.flat.length)
    have := Ex.waits_le e (o + (b.codeR 0).length) (p + 1)
    simp only [Ex.waits, Ex.flat, List.length_append, List.length_cons]; omega
theorem Exs.waitsR_le : ∀ (b : Exs) (o p : Nat), (b.waitsR o p).length ≤ b.flat.length
  | .nil, _, _ => Nat.le_refl _
  | .cons e r, o, p => by
    have := Ex.waits_le e (o + (r.codeR 0).length) p
    have := Exs.waitsR_le r o (p + e.flat.length)
    simp only [Exs.waitsR, Exs.flat, List.length_append]; omega
end
theorem posI_get {es : List Ex} {i : Nat} {e : Ex} (k : Nat) (h : es[i]? = some e) : (posI k es).getD i 0 = ((endL k (es.take i) : Nat) : Int) := by
  unfold posI
  rw [List.getD_eq_getElem?_getD, List.getElem?_map, posL_get es k i e h]
  rfl
theorem posI_len (k : Nat) (es : List Ex) : (posI k es).length = es.length := by unfold posI; rw [List.length_map, posL_len]
theorem cell_blk {w0 w : World} {F : List Nat} {m r : List HP} {b i : Nat} {T : TypeId} {cs : Array Value} {v : Value} (hh : Holds w0 F m w) (hp : Pick m (blk b T cs) r) (hc : cs[i]? = some v) : w.cell? ⟨b, i, none⟩ = some v := by
  have := hh.blk hp
  simp [World.cell?, this, hc]
set_option maxHeartbeats 4000000 in
set_option maxRecDepth 100000 in
theorem code_one (m : Nat) (p : Option Addr) (c : Nat) (L : List NodM) (h400 : L.length ≤ 400) (ih : ExC m p c L) (x : Nod) (bs : Exs) (r : Ex) (k d b : Nat) (rest : List Nod) (h : Int) (o q : Option Addr × Nat) (xs : List InsM) (ws : List Wt) (G : Rd) (w : World) (fp : List Nat) 
    (hm : (Ex.one x bs r).flat.length ≤ m + 1) (hok : (Ex.one x bs r).ok d) (hL : (L.drop k).map NodM.nod = (Ex.one x bs r).flat ++ rest) (hR : Row nodE 7 G p c L) (hB : ∀ x ∈ L, NodG G x) (hO : Own (mkS b p L.length c h o xs q ws) fp w) (hS : Rd.sub G fp w) (hxs : Bnd xs.length (Ex.one x bs r).flat.length) (hws : Bnd ws.length (Ex.one x bs r).flat.length) :
    Calls Tryz.prog 78 #[.pointer (some ⟨b, 0, none⟩), .int .i64 (k : Int)] w (GotC b p c L h (.one x bs r) k xs ws G w fp) := by
  have hn : ∀ x ∈ L, I64 x.n := fun x hx => (hB x hx).n
  obtain ⟨y, hx, hxn, hL1⟩ := nodsAt hL
  have hkL : k < L.length := (List.getElem?_eq_some_iff.1 hx).1
  have hle := nodsLe hL (Ex.flat_pos _)
  have hyB := hB y (List.mem_of_getElem? hx)
  obtain ⟨op, aop, af, ag, n, nums, text⟩ := y
  obtain ⟨⟨h1, h2, h3, h7⟩, h4, h5⟩ := hok
  subst hxn
  have hn0 := right_n h1
  dsimp only [NodM.nod] at h1 h2 h3 h7 hn0
  subst h2
  obtain ⟨N, rfl⟩ := Int.eq_ofNat_of_zero_le hn0
  refine enterR (G := G) (args := [_, _]) hS hO Tryz.func78 rfl Tryz.ntmps78 (by simp) ?_
  have hbl := bs.flat_len
  have hfl : (Ex.one (NodM.nod ⟨6, aop, af, ag, (N : Int), nums, text⟩) bs r).flat.length = bs.flat.length + r.flat.length + 1 := by simp [Ex.flat]
  have hrl := r.flat_pos
  have hcl := r.code_le
  have hwl := r.waits_le xs.length (k + 1 + bs.flat.length)
  rw [hfl] at hm hxs hws hle
  clear hfl hL hO hS
  obtain ⟨S, hS⟩ : ∃ S, S = bs.list ++ [r] := ⟨_, rfl⟩
  have hSl : S.length = bs.len + 1 := by rw [hS]; simp [Exs.list_len]
  have hSf : S.flatMap Ex.flat = bs.flat ++ r.flat := by rw [hS]; simp [Exs.list_flat]
  have hSok : ∀ s ∈ S, ∃ d, s.ok d := fun s hs => by
    rw [hS] at hs
    rcases List.mem_append.1 hs with hs | hs
    · exact ⟨_, Exs.list_ok bs _ h4 s hs⟩
    · rw [List.mem_singleton.1 hs]; exact ⟨_, h5⟩
  have hSr : S[bs.len]? = some r := by
    rw [hS, List.getElem?_append_right (by rw [Exs.list_len]; exact Nat.le_refl _), Exs.list_len, Nat.sub_self]; rfl
  have hSe : endL (k + 1) (S.take bs.len) = k + 1 + bs.flat.length := by
    rw [hS, List.take_left' (Exs.list_len bs)]; simp [endL, Exs.list_flat]
  replace hL1 : (L.drop (k + 1)).map NodM.nod = S.flatMap Ex.flat ++ rest := by rw [hSf]; exact hL1
  (repeat' (first|refine zza ?_|refine zc9 ?_|refine zzb fun w hw => ?_|refine zzh fun _ => ?_|refine zzi fun _ _ => ?_))
  rename_i b4
  refine CW_ent (m' := ro w fp G :: (mkS b p L.length c h o xs q ws ++ [blk b4 44 #[.int .i64 6, .int .i64 aop, .int .i64 af, .int .i64 ag, .int .i64 (N : Int), .slice nums.p nums.xs.length nums.c, .string ⟨text.toArray⟩]])) (Ent.cons zpk (Ent.cons zpk (Ent.cons zpk (Ent.cons zpk (Ent.consK (k := Ent.nil) .here))))) ?_
  refine CW_seq ?_
  (repeat' (first|refine zza ?_|refine zc9 ?_|refine zzb fun w hw => ?_|refine zzh fun _ => ?_|refine zzi fun _ _ => ?_))
  refine CW_cutP (X := Unit) [(0,_),(1,_),(4,_),(5,_)] zcov (fun _ => [(6, .int .i64 (bs.len : Int))]) (fun _ => True) ?_ (fun _ _ => ?_)
  · by_cases h6 : aop = 6
    · replace h3 := h3.trans (if_pos h6)
      rw [show (bs.len : Int) = 2 * (N : Int) + 1 by omega]
      subst h6
      (repeat' (first|refine zza ?_|refine zc9 ?_|refine zzb fun w hw => ?_|refine zzh fun _ => ?_|refine zzi fun _ _ => ?_|refine zv1 ?_|refine zv2 ?_|refine zzj (fun _ => ?_) fun _ => ?_))
      (refine EX_mid' (()) ?_; (repeat' (first | exact Cov.nil | exact Ent.refl | (apply And.intro) | (apply Cov.cons; rfl) | exact Ent.nil | refine zn1 ?_ | trivial | rfl | assumption | omega | (congr 1; omega))))
    · replace h3 := h3.trans (if_neg h6)
      rw [h3]
      (repeat' (first|refine zza ?_|refine zc9 ?_|refine zzb fun w hw => ?_|refine zzh fun _ => ?_|refine zzi fun _ _ => ?_|refine zv1 ?_|refine zv2 ?_|refine zzj (fun _ => ?_) fun _ => ?_))
      (refine EX_mid' (()) ?_; (repeat' (first | exact Cov.nil | exact Ent.refl | (apply And.intro) | (apply Cov.cons; rfl) | exact Ent.nil | refine zn1 ?_ | trivial | rfl | assumption | omega | (congr 1; omega))))
  (repeat' (first|refine zza ?_|refine zc9 ?_|refine zzb fun w hw => ?_|refine zzh fun _ => ?_|refine zzi fun _ _ => ?_|refine zv1 ?_|refine zv2 ?_|refine zzj (fun _ => ?_) fun _ => ?_))
  rw [show (k : Int) + 1 = ((k + 1 : Nat) : Int) from rfl, show (1 + (bs.len : Int)) = (S.length : Int) by omega]
  (apply WL_callX; rfl; rfl; rfl; (intro W hW; exact code_parts p c L h400 hn S (k + 1) b rest W hSok hL1 (cell_blk hW (.there .here) rfl) (hR.mono (hW.le .here))); intro _ _)
  rename_i zp _
  have hSl1 : (S.length : Int) - 1 = (bs.len : Int) := by omega
  have hg1 := posI_get (k + 1) hSr
  rw [hSe] at hg1
  have hg0 := posI_len (k + 1) S
  have hLr := nodsSub hL1 hSr
  rw [hSe] at hLr
  (repeat' (first|refine zza ?_|refine zc9 ?_|refine zzb fun w hw => ?_|refine zzh fun _ => ?_|refine zzi fun _ _ => ?_))
  rw [hSl1]
  (repeat' (first|refine zza ?_|refine zc9 ?_|refine zzb fun w hw => ?_|refine zzh fun _ => ?_|refine zzi fun _ _ => ?_|refine zv1 ?_|refine zv2 ?_|refine zzj (fun _ => ?_) fun _ => ?_))
  rw [hg1]
  refine WL_callG (m1 := mkS b p L.length c h o xs q ws) (r := [sl 3 1 zp.1 S.length zp.2 ((posI (k + 1) S).map (Value.int .i64)), blk b4 44 #[.int .i64 6, .int .i64 aop, .int .i64 af, .int .i64 ag, .int .i64 (N : Int), .slice nums.p nums.xs.length nums.c, .string ⟨text.toArray⟩]]) (X := Rd × List InsM × (Option Addr × Nat) × (Option Addr × Nat)) (V := fun _ => .tuple #[]) (Gx := fun z => z.1) (M := fun z => mkS b p L.length c h z.2.2.1 (xs ++ z.2.1) z.2.2.2 (ws ++ r.waits xs.length (k + 1 + bs.flat.length))) (I := fun z => z.2.1.map InsM.ins = r.code h ∧ ∀ x ∈ z.2.1, InsG z.1 x) zent rfl rfl rfl (fun W fp' hW hO hS hF => ih r (k + 1 + bs.flat.length) d b _ h o q xs ws G W fp' (by omega) h5 hLr hR hB hO hS ⟨by have := hxs.h; omega⟩ ⟨by have := hws.h; omega⟩) ?_
  rintro ⟨G1, zs, o1, q1⟩ ⟨hz, hzG⟩ hgr
  dsimp only at hz hzG hgr ⊢
  have hlz : zs.length = (r.code 0).length := by rw [← List.length_map (f := InsM.ins), hz, Ex.code_len h r]
  (repeat' (first|refine zza ?_|refine zc9 ?_|refine zzb fun w hw => ?_|refine zzh fun _ => ?_|refine zzi fun _ _ => ?_|refine zv1 ?_|refine zv2 ?_|refine zzj (fun _ => ?_) fun _ => ?_))
  obtain ⟨wq, hwq⟩ : ∃ wq, wq = ws ++ r.waits xs.length (k + 1 + bs.flat.length) := ⟨_, rfl⟩
  have hwql : wq.length ≤ 900000000 := by rw [hwq, List.length_append]; have := hws.h; omega
  refine CW_seq ?_
  by_cases h6 : aop = 6
  · subst h6
    replace h3 := h3.trans (if_pos rfl)
    have hS0 : S[0]? = some (S[0]'(by omega)) := List.getElem?_eq_getElem (by omega)
    have hgS := posI_get (k + 1) hS0
    rw [List.take_zero, show endL (k + 1) [] = k + 1 from rfl] at hgS
    rw [← hwq]
    (repeat' (first|refine zza ?_|refine zc9 ?_|refine zzb fun w hw => ?_|refine zzh fun _ => ?_|refine zzi fun _ _ => ?_|refine zv1 ?_|refine zv2 ?_|refine zzj (fun _ => ?_) fun _ => ?_))
    refine WL_callUX (m1 := [mkr b p L.length c (o1.1, (xs ++ zs).length, o1.2) (q1.1, wq.length, q1.2) h, outS (o1.1, (xs ++ zs).length, o1.2) (xs ++ zs)]) (r := [queS q1 wq, sl 3 1 zp.1 S.length zp.2 ((posI (k + 1) S).map (Value.int .i64)), blk b4 44 #[.int .i64 6, .int .i64 6, .int .i64 af, .int .i64 ag, .int .i64 (N : Int), .slice nums.p nums.xs.length nums.c, .string ⟨text.toArray⟩]]) zent rfl rfl rfl (fun W fp' hO hS => code_put G1 b p L.length c o1 (q1.1, wq.length, q1.2) h (xs ++ zs) ⟨10, 0, 0, 0, 1, 0, ⟨none, 0, []⟩, []⟩ W fp' hO hS (by rw [List.length_append]; have := hxs.h; omega)) ?_
    rintro z _
    (repeat' (first|refine zza ?_|refine zzb fun w hw => ?_|refine zzh fun _ => ?_|refine zzi fun _ _ => ?_|refine zzj (fun _ => ?_) fun _ => ?_))
    refine CW_perm 16 [0, 1, 2, 3, 4, 5, 6, 7, 8, 9, 10, 11, 12, 13, 14, 15] [sl 3 1 zp.1 S.length zp.2 ((posI (k + 1) S).map (Value.int .i64)), blk b4 44 #[.int .i64 6, .int .i64 6, .int .i64 af, .int .i64 ag, .int .i64 (N : Int), .slice nums.p nums.xs.length nums.c, .string ⟨text.toArray⟩], mkr b p L.length c (z.1, (xs ++ zs ++ [(⟨10, 0, 0, 0, 1, 0, ⟨none, 0, []⟩, []⟩ : InsM)]).length, z.2) (q1.1, wq.length, q1.2) h, outS (z.1, (xs ++ zs ++ [(⟨10, 0, 0, 0, 1, 0, ⟨none, 0, []⟩, []⟩ : InsM)]).length, z.2) (xs ++ zs ++ [(⟨10, 0, 0, 0, 1, 0, ⟨none, 0, []⟩, []⟩ : InsM)]), ro w fp G1] [] Cov.nil (pm := [queS q1 wq]) zent (by kernel_rfl) (by decide +kernel) (by kernel_rfl) ?_
    (refine WP_op rfl rfl rfl zyi ?_)
    (refine WP_op rfl rfl rfl zyi ?_)
    (refine WP_op rfl rfl rfl zyi ?_)
    (refine WP_op rfl rfl rfl zyi ?_)
    (refine WP_op rfl rfl rfl zyi ?_)
    (refine WP_op rfl rfl rfl zyi ?_)
    (refine WP_op rfl rfl rfl zyi ?_)
    (refine WP_op rfl rfl rfl zyi ?_)
    refine WP_op rfl rfl rfl (y_ixo1 (i := 0) rfl rfl .here (by omega)) ?_
    refine WP_op rfl rfl rfl (y_load rfl (rd_slI .here (by omega))) ?_
    rw [hgS]
    (refine WP_op rfl rfl rfl zyi ?_)
    (refine WP_op rfl rfl rfl zyi ?_)
    (refine WP_op rfl rfl rfl zyi ?_)
    (refine WP_op rfl rfl rfl zyi ?_)
    apply WP_bslice (hk := rfl) (pm := [queS q1 wq]) (he := zent) (hso := by decide +kernel) (hx := rfl) (hl := rfl) (hc := rfl) (hs := rfl) (h0 := rfl) (hg := rfl) (hn := rfl)
    intro bb
    apply WP_appendQ (hk := rfl) (hso := by decide +kernel) (hx := rfl) (hy := rfl) (he := rfl) (hp := .there (.there (.there (.there .here)))) (hp2 := .here) (pm := []) (hr := zent) (hl := rfl) (h1' := rfl) (hmax := by omega) (hmax2 := by omega) (hg := rfl) (hn := rfl)
    intro q' c2
    refine WP_end ?_
    (repeat' (first|refine zza ?_|refine zc9 ?_|refine zzb fun w hw => ?_|refine zzh fun _ => ?_|refine zzi fun _ _ => ?_|refine zv1 ?_|refine zv2 ?_|refine zzj (fun _ => ?_) fun _ => ?_))
    obtain ⟨wt, hwtd⟩ : ∃ wt : Wt, wt = ⟨bs, k + 1, (N : Int), (xs ++ zs).length⟩ := ⟨_, rfl⟩
    have hwt : ws ++ (Ex.one (NodM.nod ⟨6, 6, af, ag, (N : Int), nums, text⟩) bs r).waits xs.length k = wq ++ [wt] := by
      show ws ++ (r.waits xs.length (k + 1 + bs.flat.length) ++ actW (NodM.nod ⟨6, 6, af, ag, (N : Int), nums, text⟩) bs (k + 1) (xs.length + (r.code 0).length)) = _
      rw [show actW (NodM.nod ⟨6, 6, af, ag, (N : Int), nums, text⟩) bs (k + 1) (xs.length + (r.code 0).length) = _ from if_pos rfl, hwq, ← List.append_assoc, hwtd, List.length_append, hlz]
      rfl
    have hcd : (zs ++ [(⟨10, 0, 0, 0, 1, 0, ⟨none, 0, []⟩, []⟩ : InsM)]).map InsM.ins = (Ex.one (NodM.nod ⟨6, 6, af, ag, (N : Int), nums, text⟩) bs r).code h := by
      rw [List.map_append, hz]
      show r.code h ++ [_] = r.code h ++ [actI h (NodM.nod ⟨6, 6, af, ag, (N : Int), nums, text⟩) 1]
      rw [show actI h (NodM.nod ⟨6, 6, af, ag, (N : Int), nums, text⟩) 1 = _ from if_pos rfl]
      rfl
    have e1 : (wq ++ [wt]).length = wq.length + 1 := by simp
    have e2 : (wq ++ [wt]).flatMap wtC = wq.flatMap wtC ++ wtC wt := by simp
    exact ⟨(G1, zs ++ [⟨10, 0, 0, 0, 1, 0, ⟨none, 0, []⟩, []⟩], z, (q', c2)), ⟨hcd, fun x hx => by
      rcases List.mem_append.1 hx with hx | hx
      · exact hzG x hx
      · rw [List.mem_singleton.1 hx]; exact ⟨by simp, Row.nil _ _ _, by simp⟩⟩, rfl, hgr, hw.ent (by rw [hwt, ← List.append_assoc xs zs]; unfold mkS queS; rw [e1, e2, hwtd]; exact zent)⟩
  by_cases h77 : aop = 7
  · subst h77
    rw [← hwq]
    (repeat' (first|refine zza ?_|refine zc9 ?_|refine zzb fun w hw => ?_|refine zzh fun _ => ?_|refine zzi fun _ _ => ?_|refine zv1 ?_|refine zv2 ?_|refine zzj (fun _ => ?_) fun _ => ?_))
    refine WL_callUX (m1 := [mkr b p L.length c (o1.1, (xs ++ zs).length, o1.2) (q1.1, wq.length, q1.2) h, outS (o1.1, (xs ++ zs).length, o1.2) (xs ++ zs)]) (r := [queS q1 wq, sl 3 1 zp.1 S.length zp.2 ((posI (k + 1) S).map (Value.int .i64)), blk b4 44 #[.int .i64 6, .int .i64 7, .int .i64 af, .int .i64 ag, .int .i64 (N : Int), .slice nums.p nums.xs.length nums.c, .string ⟨text.toArray⟩]]) zent rfl rfl rfl (fun W fp' hO hS => code_put G1 b p L.length c o1 (q1.1, wq.length, q1.2) h (xs ++ zs) ⟨10, 0, 0, 0, 1, h, ⟨none, 0, []⟩, []⟩ W fp' hO hS (by rw [List.length_append]; have := hxs.h; omega)) ?_
    rintro z _
    (repeat' (first|refine zza ?_|refine zc9 ?_|refine zzb fun w hw => ?_|refine zzh fun _ => ?_|refine zzi fun _ _ => ?_|refine zv1 ?_|refine zv2 ?_|refine zzj (fun _ => ?_) fun _ => ?_))
    have hwt : ws ++ (Ex.one (NodM.nod ⟨6, 7, af, ag, (N : Int), nums, text⟩) bs r).waits xs.length k = wq := by
      show ws ++ (r.waits xs.length (k + 1 + bs.flat.length) ++ actW (NodM.nod ⟨6, 7, af, ag, (N : Int), nums, text⟩) bs (k + 1) (xs.length + (r.code 0).length)) = _
      rw [show actW (NodM.nod ⟨6, 7, af, ag, (N : Int), nums, text⟩) bs (k + 1) (xs.length + (r.code 0).length) = [] from if_neg (show ¬ (7 : Int) = 6 by decide), List.append_nil, hwq]
    have hcd : (zs ++ [(⟨10, 0, 0, 0, 1, h, ⟨none, 0, []⟩, []⟩ : InsM)]).map InsM.ins = (Ex.one (NodM.nod ⟨6, 7, af, ag, (N : Int), nums, text⟩) bs r).code h := by
      rw [List.map_append, hz]
      show r.code h ++ [_] = r.code h ++ [actI h (NodM.nod ⟨6, 7, af, ag, (N : Int), nums, text⟩) 1]
      rw [show actI h (NodM.nod ⟨6, 7, af, ag, (N : Int), nums, text⟩) 1 = _ from (if_neg (show ¬ (7 : Int) = 6 by decide)).trans (if_pos (show (7 : Int) = 7 from rfl))]
      rfl
    exact ⟨(G1, zs ++ [⟨10, 0, 0, 0, 1, h, ⟨none, 0, []⟩, []⟩], z, q1), ⟨hcd, fun x hx => by
      rcases List.mem_append.1 hx with hx | hx
      · exact hzG x hx
      · rw [List.mem_singleton.1 hx]; exact ⟨by simp, Row.nil _ _ _, by simp⟩⟩, rfl, hgr, hw.ent (by rw [hwt, ← List.append_assoc xs zs]; exact zent)⟩
  · rw [← hwq]
    (repeat' (first|refine zza ?_|refine zc9 ?_|refine zzb fun w hw => ?_|refine zzh fun _ => ?_|refine zzi fun _ _ => ?_|refine zv1 ?_|refine zv2 ?_|refine zzj (fun _ => ?_) fun _ => ?_))
    refine CW_seq ?_
    (repeat' (first|refine zza ?_|refine zc9 ?_|refine zzb fun w hw => ?_|refine zzh fun _ => ?_|refine zzi fun _ _ => ?_|refine zv1 ?_|refine zv2 ?_|refine zzj (fun _ => ?_) fun _ => ?_))
    refine WL_callUX (m1 := [mkr b p L.length c (o1.1, (xs ++ zs).length, o1.2) (q1.1, wq.length, q1.2) h, outS (o1.1, (xs ++ zs).length, o1.2) (xs ++ zs)]) (r := [queS q1 wq, sl 3 1 zp.1 S.length zp.2 ((posI (k + 1) S).map (Value.int .i64)), blk b4 44 #[.int .i64 6, .int .i64 aop, .int .i64 af, .int .i64 ag, .int .i64 (N : Int), .slice nums.p nums.xs.length nums.c, .string ⟨text.toArray⟩]]) zent rfl rfl rfl (fun W fp' hO hS => code_put G1 b p L.length c o1 (q1.1, wq.length, q1.2) h (xs ++ zs) ⟨6, aop, af, ag, 0, 0, ⟨none, 0, []⟩, []⟩ W fp' hO hS (by rw [List.length_append]; have := hxs.h; omega)) ?_
    rintro z _
    (repeat' (first|refine zza ?_|refine zc9 ?_|refine zzb fun w hw => ?_|refine zzh fun _ => ?_|refine zzi fun _ _ => ?_|refine zv1 ?_|refine zv2 ?_|refine zzj (fun _ => ?_) fun _ => ?_))
    have hwt : ws ++ (Ex.one (NodM.nod ⟨6, aop, af, ag, (N : Int), nums, text⟩) bs r).waits xs.length k = wq := by
      show ws ++ (r.waits xs.length (k + 1 + bs.flat.length) ++ actW (NodM.nod ⟨6, aop, af, ag, (N : Int), nums, text⟩) bs (k + 1) (xs.length + (r.code 0).length)) = _
      rw [show actW (NodM.nod ⟨6, aop, af, ag, (N : Int), nums, text⟩) bs (k + 1) (xs.length + (r.code 0).length) = [] from if_neg h6, List.append_nil, hwq]
    have hcd : (zs ++ [(⟨6, aop, af, ag, 0, 0, ⟨none, 0, []⟩, []⟩ : InsM)]).map InsM.ins = (Ex.one (NodM.nod ⟨6, aop, af, ag, (N : Int), nums, text⟩) bs r).code h := by
      rw [List.map_append, hz]
      show r.code h ++ [_] = r.code h ++ [actI h (NodM.nod ⟨6, aop, af, ag, (N : Int), nums, text⟩) 1]
      rw [show actI h (NodM.nod ⟨6, aop, af, ag, (N : Int), nums, text⟩) 1 = _ from (if_neg h6).trans (if_neg h77)]
      rfl
    exact ⟨(G1, zs ++ [⟨6, aop, af, ag, 0, 0, ⟨none, 0, []⟩, []⟩], z, q1), ⟨hcd, fun x hx => by
      rcases List.mem_append.1 hx with hx | hx
      · exact hzG x hx
      · rw [List.mem_singleton.1 hx]; exact ⟨by simp, Row.nil _ _ _, by simp⟩⟩, rfl, hgr, hw.ent (by rw [hwt, ← List.append_assoc xs zs]; exact zent)⟩
end Go.Proofs.YtngeooflfkpikaaGreatDoor
namespace Go.Proofs.YtngeooflfkpikaaGreatDoor
open Go.RowKit
set_option maxHeartbeats 4000000 in
set_option maxRecDepth 100000 in
theorem code_two (m : Nat) (p : Option Addr) (c : Nat) (L : List NodM) (h400 : L.length ≤ 400) (ih : ExC m p c L) (x : Nod) (l : Ex) (bs : Exs) (r : Ex) (k d b : Nat) (rest : List Nod) (h : Int) (o q : Option Addr × Nat) (xs : List InsM) (ws : List Wt) (G : Rd) (w : World) (fp : List Nat) 
    (hm : (Ex.two x l bs r).flat.length ≤ m + 1) (hok : (Ex.two x l bs r).ok d) (hL : (L.drop k).map NodM.nod = (Ex.two x l bs r).flat ++ rest) (hR : Row nodE 7 G p c L) (hB : ∀ x ∈ L, NodG G x) (hO : Own (mkS b p L.length c h o xs q ws) fp w) (hS : Rd.sub G fp w) (hxs : Bnd xs.length (Ex.two x l bs r).flat.length) (hws : Bnd ws.length (Ex.two x l bs r).flat.length) :
    Calls Tryz.prog 78 #[.pointer (some ⟨b, 0, none⟩), .int .i64 (k : Int)] w (GotC b p c L h (.two x l bs r) k xs ws G w fp) := by
  have hn : ∀ x ∈ L, I64 x.n := fun x hx => (hB x hx).n
  obtain ⟨y, hx, hxn, hL1⟩ := nodsAt hL
  have hkL : k < L.length := (List.getElem?_eq_some_iff.1 hx).1
  have hle := nodsLe hL (Ex.flat_pos _)
  have hyB := hB y (List.mem_of_getElem? hx)
  obtain ⟨op, aop, af, ag, n, nums, text⟩ := y
  obtain ⟨⟨h1, h2, h3, h7⟩, h8, h4, h5⟩ := hok
  subst hxn
  have hn0 := right_n h1
  dsimp only [NodM.nod] at h1 h2 h3 h7 hn0
  subst h2
  obtain ⟨N, rfl⟩ := Int.eq_ofNat_of_zero_le hn0
  refine enterR (G := G) (args := [_, _]) hS hO Tryz.func78 rfl Tryz.ntmps78 (by simp) ?_
  have hbl := bs.flat_len
  have hfl : (Ex.two (NodM.nod ⟨7, aop, af, ag, (N : Int), nums, text⟩) l bs r).flat.length = l.flat.length + bs.flat.length + r.flat.length + 1 := by simp [Ex.flat]; omega
  have hrl := r.flat_pos
  have hll := l.flat_pos
  have hcll := l.code_le
  have hcl := r.code_le
  have hwl := r.waits_le xs.length (k + 1 + l.flat.length + bs.flat.length)
  rw [hfl] at hm hxs hws hle
  clear hfl hL hO hS
  obtain ⟨S, hS⟩ : ∃ S, S = l :: (bs.list ++ [r]) := ⟨_, rfl⟩
  have hSl : S.length = bs.len + 2 := by rw [hS]; simp [Exs.list_len]
  have hSf : S.flatMap Ex.flat = l.flat ++ (bs.flat ++ r.flat) := by rw [hS]; simp [Exs.list_flat]
  have hSok : ∀ s ∈ S, ∃ d, s.ok d := fun s hs => by
    rw [hS] at hs
    rcases List.mem_cons.1 hs with rfl | hs
    · exact ⟨_, h8⟩
    rcases List.mem_append.1 hs with hs | hs
    · exact ⟨_, Exs.list_ok bs _ h4 s hs⟩
    · rw [List.mem_singleton.1 hs]; exact ⟨_, h5⟩
  have hSr : S[bs.len + 1]? = some r := by
    rw [hS, List.getElem?_cons_succ, List.getElem?_append_right (by rw [Exs.list_len]; exact Nat.le_refl _), Exs.list_len, Nat.sub_self]; rfl
  have hSe : endL (k + 1) (S.take (bs.len + 1)) = k + 1 + l.flat.length + bs.flat.length := by
    rw [hS, List.take_succ_cons, List.take_left' (Exs.list_len bs)]; simp [endL, Exs.list_flat]; omega
  have hS0 : S[0]? = some l := by rw [hS]; rfl
  have hS1 : S[1]? = some (S[1]'(by omega)) := List.getElem?_eq_getElem (by omega)
  have hLl := nodsSub (L := L) (k := k + 1) (rest := rest) (by rw [hSf]; exact hL1) hS0
  rw [List.take_zero, show endL (k + 1) [] = k + 1 from rfl] at hLl
  replace hL1 : (L.drop (k + 1)).map NodM.nod = S.flatMap Ex.flat ++ rest := by rw [hSf]; exact hL1
  (repeat' (first|refine zza ?_|refine zc9 ?_|refine zzb fun w hw => ?_|refine zzh fun _ => ?_|refine zzi fun _ _ => ?_))
  rename_i b4
  refine CW_ent (m' := ro w fp G :: (mkS b p L.length c h o xs q ws ++ [blk b4 44 #[.int .i64 7, .int .i64 aop, .int .i64 af, .int .i64 ag, .int .i64 (N : Int), .slice nums.p nums.xs.length nums.c, .string ⟨text.toArray⟩]])) (Ent.cons zpk (Ent.cons zpk (Ent.cons zpk (Ent.cons zpk (Ent.consK (k := Ent.nil) .here))))) ?_
  refine CW_seq ?_
  (repeat' (first|refine zza ?_|refine zc9 ?_|refine zzb fun w hw => ?_|refine zzh fun _ => ?_|refine zzi fun _ _ => ?_))
  refine CW_cutP (X := Unit) [(0,_),(1,_),(4,_),(5,_)] zcov (fun _ => [(6, .int .i64 (bs.len : Int))]) (fun _ => True) ?_ (fun _ _ => ?_)
  · by_cases h6 : aop = 6
    · replace h3 := h3.trans (if_pos h6)
      rw [show (bs.len : Int) = 2 * (N : Int) + 1 by omega]
      subst h6
      (repeat' (first|refine zza ?_|refine zc9 ?_|refine zzb fun w hw => ?_|refine zzh fun _ => ?_|refine zzi fun _ _ => ?_|refine zv1 ?_|refine zv2 ?_|refine zzj (fun _ => ?_) fun _ => ?_))
      (refine EX_mid' (()) ?_; (repeat' (first | exact Cov.nil | exact Ent.refl | (apply And.intro) | (apply Cov.cons; rfl) | exact Ent.nil | refine zn1 ?_ | trivial | rfl | assumption | omega | (congr 1; omega))))
    · replace h3 := h3.trans (if_neg h6)
      rw [h3]
      (repeat' (first|refine zza ?_|refine zc9 ?_|refine zzb fun w hw => ?_|refine zzh fun _ => ?_|refine zzi fun _ _ => ?_|refine zv1 ?_|refine zv2 ?_|refine zzj (fun _ => ?_) fun _ => ?_))
      (refine EX_mid' (()) ?_; (repeat' (first | exact Cov.nil | exact Ent.refl | (apply And.intro) | (apply Cov.cons; rfl) | exact Ent.nil | refine zn1 ?_ | trivial | rfl | assumption | omega | (congr 1; omega))))
  (repeat' (first|refine zza ?_|refine zc9 ?_|refine zzb fun w hw => ?_|refine zzh fun _ => ?_|refine zzi fun _ _ => ?_|refine zv1 ?_|refine zv2 ?_|refine zzj (fun _ => ?_) fun _ => ?_))
  rw [show (k : Int) + 1 = ((k + 1 : Nat) : Int) from rfl, show (2 + (bs.len : Int)) = (S.length : Int) by omega]
  (apply WL_callX; rfl; rfl; rfl; (intro W hW; exact code_parts p c L h400 hn S (k + 1) b rest W hSok hL1 (cell_blk hW (.there .here) rfl) (hR.mono (hW.le .here))); intro _ _)
  rename_i zp _
  have hSl1 : (S.length : Int) - 1 = ((bs.len + 1 : Nat) : Int) := by omega
  have hg1 := posI_get (k + 1) hSr
  rw [hSe] at hg1
  have hg0 := posI_len (k + 1) S
  have hLr := nodsSub hL1 hSr
  rw [hSe] at hLr
  (repeat' (first|refine zza ?_|refine zc9 ?_|refine zzb fun w hw => ?_|refine zzh fun _ => ?_|refine zzi fun _ _ => ?_))
  rw [hSl1]
  (repeat' (first|refine zza ?_|refine zc9 ?_|refine zzb fun w hw => ?_|refine zzh fun _ => ?_|refine zzi fun _ _ => ?_|refine zv1 ?_|refine zv2 ?_|refine zzj (fun _ => ?_) fun _ => ?_))
  rw [hg1]
  refine WL_callG (m1 := mkS b p L.length c h o xs q ws) (r := [sl 3 1 zp.1 S.length zp.2 ((posI (k + 1) S).map (Value.int .i64)), blk b4 44 #[.int .i64 7, .int .i64 aop, .int .i64 af, .int .i64 ag, .int .i64 (N : Int), .slice nums.p nums.xs.length nums.c, .string ⟨text.toArray⟩]]) (X := Rd × List InsM × (Option Addr × Nat) × (Option Addr × Nat)) (V := fun _ => .tuple #[]) (Gx := fun z => z.1) (M := fun z => mkS b p L.length c h z.2.2.1 (xs ++ z.2.1) z.2.2.2 (ws ++ r.waits xs.length (k + 1 + l.flat.length + bs.flat.length))) (I := fun z => z.2.1.map InsM.ins = r.code h ∧ ∀ x ∈ z.2.1, InsG z.1 x) zent rfl rfl rfl (fun W fp' hW hO hS hF => ih r (k + 1 + l.flat.length + bs.flat.length) d b _ h o q xs ws G W fp' (by omega) h5 hLr hR hB hO hS ⟨by have := hxs.h; omega⟩ ⟨by have := hws.h; omega⟩) ?_
  rintro ⟨G0, zr, o0, q0⟩ ⟨hz, hzG⟩ hgr0
  dsimp only at hz hzG hgr0 ⊢
  have hlz : zr.length = (r.code 0).length := by rw [← List.length_map (f := InsM.ins), hz, Ex.code_len h r]
  have hxl : (xs ++ zr).length = xs.length + (r.code 0).length := by rw [List.length_append, hlz]
  obtain ⟨wr, hwr⟩ : ∃ wr, wr = ws ++ r.waits xs.length (k + 1 + l.flat.length + bs.flat.length) := ⟨_, rfl⟩
  have hwrl : wr.length ≤ ws.length + r.flat.length := by rw [hwr, List.length_append]; omega
  have hg2 := posI_get (k + 1) hS0
  rw [List.take_zero, show endL (k + 1) [] = k + 1 from rfl] at hg2
  have hwl2 := l.waits_le (xs ++ zr).length (k + 1)
  rw [← hwr]
  (repeat' (first|refine zza ?_|refine zc9 ?_|refine zzb fun w hw => ?_|refine zzh fun _ => ?_|refine zzi fun _ _ => ?_|refine zv1 ?_|refine zv2 ?_|refine zzj (fun _ => ?_) fun _ => ?_))
  refine CW_seq ?_
  (repeat' (first|refine zza ?_|refine zc9 ?_|refine zzb fun w hw => ?_|refine zzh fun _ => ?_|refine zzi fun _ _ => ?_))
  refine WL_op rfl rfl (y_ixo1 (i := 0) rfl rfl zpk (by omega)) ?_
  refine WL_op rfl rfl (y_load rfl (rd_slI zpk (by omega))) ?_
  rw [hg2]
  refine WL_callG (m1 := mkS b p L.length c h o0 (xs ++ zr) q0 wr) (r := [sl 3 1 zp.1 S.length zp.2 ((posI (k + 1) S).map (Value.int .i64)), blk b4 44 #[.int .i64 7, .int .i64 aop, .int .i64 af, .int .i64 ag, .int .i64 (N : Int), .slice nums.p nums.xs.length nums.c, .string ⟨text.toArray⟩]]) (X := Rd × List InsM × (Option Addr × Nat) × (Option Addr × Nat)) (V := fun _ => .tuple #[]) (Gx := fun z => z.1) (M := fun z => mkS b p L.length c h z.2.2.1 ((xs ++ zr) ++ z.2.1) z.2.2.2 (wr ++ l.waits (xs ++ zr).length (k + 1))) (I := fun z => z.2.1.map InsM.ins = l.code h ∧ ∀ x ∈ z.2.1, InsG z.1 x) zent rfl rfl rfl (fun W fp' hW hO hS hF => ih l (k + 1) d b _ h o0 q0 (xs ++ zr) wr G0 W fp' (by omega) h8 hLl (hR.mono hgr0.1) (fun x hx => (hB x hx).mono hgr0.1) hO hS ⟨by have := hxs.h; omega⟩ ⟨by have := hws.h; omega⟩) ?_
  rintro ⟨G1, zl, o1, q1⟩ ⟨hzl, hzlG⟩ hgr1
  dsimp only at hzl hzlG hgr1 ⊢
  have hlzl : zl.length = (l.code 0).length := by rw [← List.length_map (f := InsM.ins), hzl, Ex.code_len h l]
  obtain ⟨zs, hzs⟩ : ∃ zs, zs = zr ++ zl := ⟨_, rfl⟩
  have hgr := Rd.grow_tr hgr0 hgr1
  have hzsG : ∀ x ∈ zs, InsG G1 x := fun x hx => by
    rw [hzs] at hx
    rcases List.mem_append.1 hx with hx | hx
    · exact (hzG x hx).mono hgr1.1
    · exact hzlG x hx
  have hzm : zs.map InsM.ins = r.code h ++ l.code h := by rw [hzs, List.map_append, hz, hzl]
  have hlzs : (xs ++ zs).length = xs.length + (r.code 0).length + (l.code 0).length := by rw [hzs, List.length_append, List.length_append, hlz, hlzl]; omega
  obtain ⟨wq, hwq⟩ : ∃ wq, wq = wr ++ l.waits (xs ++ zr).length (k + 1) := ⟨_, rfl⟩
  have hwql : wq.length ≤ 900000000 := by rw [hwq, List.length_append]; have := hws.h; omega
  rw [← hwq, List.append_assoc xs zr zl, ← hzs]
  rw [hxl] at hwq
  by_cases h6 : aop = 6
  · subst h6
    replace h3 := h3.trans (if_pos rfl)
    have hgS := posI_get (k + 1) hS1
    rw [show S.take 1 = [l] by rw [hS]; rfl, show endL (k + 1) [l] = k + 1 + l.flat.length by simp [endL]] at hgS
    (repeat' (first|refine zza ?_|refine zc9 ?_|refine zzb fun w hw => ?_|refine zzh fun _ => ?_|refine zzi fun _ _ => ?_|refine zv1 ?_|refine zv2 ?_|refine zzj (fun _ => ?_) fun _ => ?_))
    refine WL_callUX (m1 := [mkr b p L.length c (o1.1, (xs ++ zs).length, o1.2) (q1.1, wq.length, q1.2) h, outS (o1.1, (xs ++ zs).length, o1.2) (xs ++ zs)]) (r := [queS q1 wq, sl 3 1 zp.1 S.length zp.2 ((posI (k + 1) S).map (Value.int .i64)), blk b4 44 #[.int .i64 7, .int .i64 6, .int .i64 af, .int .i64 ag, .int .i64 (N : Int), .slice nums.p nums.xs.length nums.c, .string ⟨text.toArray⟩]]) zent rfl rfl rfl (fun W fp' hO hS => code_put G1 b p L.length c o1 (q1.1, wq.length, q1.2) h (xs ++ zs) ⟨10, 0, 0, 0, 2, 0, ⟨none, 0, []⟩, []⟩ W fp' hO hS (by rw [hlzs]; have := hxs.h; omega)) ?_
    rintro z _
    (repeat' (first|refine zza ?_|refine zzb fun w hw => ?_|refine zzh fun _ => ?_|refine zzi fun _ _ => ?_|refine zzj (fun _ => ?_) fun _ => ?_))
    refine CW_perm 16 [0, 1, 2, 3, 4, 5, 6, 7, 8, 9, 10, 11, 12, 13, 14, 15] [sl 3 1 zp.1 S.length zp.2 ((posI (k + 1) S).map (Value.int .i64)), blk b4 44 #[.int .i64 7, .int .i64 6, .int .i64 af, .int .i64 ag, .int .i64 (N : Int), .slice nums.p nums.xs.length nums.c, .string ⟨text.toArray⟩], mkr b p L.length c (z.1, (xs ++ zs ++ [(⟨10, 0, 0, 0, 2, 0, ⟨none, 0, []⟩, []⟩ : InsM)]).length, z.2) (q1.1, wq.length, q1.2) h, outS (z.1, (xs ++ zs ++ [(⟨10, 0, 0, 0, 2, 0, ⟨none, 0, []⟩, []⟩ : InsM)]).length, z.2) (xs ++ zs ++ [(⟨10, 0, 0, 0, 2, 0, ⟨none, 0, []⟩, []⟩ : InsM)]), ro w fp G1] [] Cov.nil (pm := [queS q1 wq]) zent (by kernel_rfl) (by decide +kernel) (by kernel_rfl) ?_
    (refine WP_op rfl rfl rfl zyi ?_)
    (refine WP_op rfl rfl rfl zyi ?_)
    (refine WP_op rfl rfl rfl zyi ?_)
    (refine WP_op rfl rfl rfl zyi ?_)
    (refine WP_op rfl rfl rfl zyi ?_)
    (refine WP_op rfl rfl rfl zyi ?_)
    (refine WP_op rfl rfl rfl zyi ?_)
    (refine WP_op rfl rfl rfl zyi ?_)
    refine WP_op rfl rfl rfl (y_ixo1 (i := 1) rfl rfl .here (by omega)) ?_
    refine WP_op rfl rfl rfl (y_load rfl (rd_slI .here (by omega))) ?_
    rw [hgS]
    (refine WP_op rfl rfl rfl zyi ?_)
    (refine WP_op rfl rfl rfl zyi ?_)
    (refine WP_op rfl rfl rfl zyi ?_)
    (refine WP_op rfl rfl rfl zyi ?_)
    apply WP_bslice (hk := rfl) (pm := [queS q1 wq]) (he := zent) (hso := by decide +kernel) (hx := rfl) (hl := rfl) (hc := rfl) (hs := rfl) (h0 := rfl) (hg := rfl) (hn := rfl)
    intro bb
    apply WP_appendQ (hk := rfl) (hso := by decide +kernel) (hx := rfl) (hy := rfl) (he := rfl) (hp := .there (.there (.there (.there .here)))) (hp2 := .here) (pm := []) (hr := zent) (hl := rfl) (h1' := rfl) (hmax := by omega) (hmax2 := by omega) (hg := rfl) (hn := rfl)
    intro q' c2
    refine WP_end ?_
    (repeat' (first|refine zza ?_|refine zc9 ?_|refine zzb fun w hw => ?_|refine zzh fun _ => ?_|refine zzi fun _ _ => ?_|refine zv1 ?_|refine zv2 ?_|refine zzj (fun _ => ?_) fun _ => ?_))
    obtain ⟨wt, hwtd⟩ : ∃ wt : Wt, wt = ⟨bs, k + 1 + l.flat.length, (N : Int), (xs ++ zs).length⟩ := ⟨_, rfl⟩
    have hwt : ws ++ (Ex.two (NodM.nod ⟨7, 6, af, ag, (N : Int), nums, text⟩) l bs r).waits xs.length k = wq ++ [wt] := by
      show ws ++ (r.waits xs.length (k + 1 + l.flat.length + bs.flat.length) ++ (l.waits (xs.length + (r.code 0).length) (k + 1) ++ actW (NodM.nod ⟨7, 6, af, ag, (N : Int), nums, text⟩) bs (k + 1 + l.flat.length) (xs.length + (r.code 0).length + (l.code 0).length))) = _
      rw [show actW (NodM.nod ⟨7, 6, af, ag, (N : Int), nums, text⟩) bs (k + 1 + l.flat.length) (xs.length + (r.code 0).length + (l.code 0).length) = _ from if_pos rfl, hwq, hwr, hwtd, hlzs, List.append_assoc, List.append_assoc]
      rfl
    have hcd : (zs ++ [(⟨10, 0, 0, 0, 2, 0, ⟨none, 0, []⟩, []⟩ : InsM)]).map InsM.ins = (Ex.two (NodM.nod ⟨7, 6, af, ag, (N : Int), nums, text⟩) l bs r).code h := by
      rw [List.map_append, hzm, List.append_assoc]
      show r.code h ++ (l.code h ++ [_]) = r.code h ++ (l.code h ++ [actI h (NodM.nod ⟨7, 6, af, ag, (N : Int), nums, text⟩) 2])
      rw [show actI h (NodM.nod ⟨7, 6, af, ag, (N : Int), nums, text⟩) 2 = _ from if_pos rfl]
      rfl
    have e1 : (wq ++ [wt]).length = wq.length + 1 := by simp
    have e2 : (wq ++ [wt]).flatMap wtC = wq.flatMap wtC ++ wtC wt := by simp
    exact ⟨(G1, zs ++ [⟨10, 0, 0, 0, 2, 0, ⟨none, 0, []⟩, []⟩], z, (q', c2)), ⟨hcd, fun x hx => by
      rcases List.mem_append.1 hx with hx | hx
      · exact hzsG x hx
      · rw [List.mem_singleton.1 hx]; exact ⟨by simp, Row.nil _ _ _, by simp⟩⟩, rfl, hgr, hw.ent (by rw [hwt, ← List.append_assoc xs zs]; unfold mkS queS; rw [e1, e2, hwtd]; exact zent)⟩
  by_cases h77 : aop = 7
  · subst h77
    (repeat' (first|refine zza ?_|refine zc9 ?_|refine zzb fun w hw => ?_|refine zzh fun _ => ?_|refine zzi fun _ _ => ?_|refine zv1 ?_|refine zv2 ?_|refine zzj (fun _ => ?_) fun _ => ?_))
    refine WL_callUX (m1 := [mkr b p L.length c (o1.1, (xs ++ zs).length, o1.2) (q1.1, wq.length, q1.2) h, outS (o1.1, (xs ++ zs).length, o1.2) (xs ++ zs)]) (r := [queS q1 wq, sl 3 1 zp.1 S.length zp.2 ((posI (k + 1) S).map (Value.int .i64)), blk b4 44 #[.int .i64 7, .int .i64 7, .int .i64 af, .int .i64 ag, .int .i64 (N : Int), .slice nums.p nums.xs.length nums.c, .string ⟨text.toArray⟩]]) zent rfl rfl rfl (fun W fp' hO hS => code_put G1 b p L.length c o1 (q1.1, wq.length, q1.2) h (xs ++ zs) ⟨10, 0, 0, 0, 2, h, ⟨none, 0, []⟩, []⟩ W fp' hO hS (by rw [hlzs]; have := hxs.h; omega)) ?_
    rintro z _
    (repeat' (first|refine zza ?_|refine zc9 ?_|refine zzb fun w hw => ?_|refine zzh fun _ => ?_|refine zzi fun _ _ => ?_|refine zv1 ?_|refine zv2 ?_|refine zzj (fun _ => ?_) fun _ => ?_))
    have hwt : ws ++ (Ex.two (NodM.nod ⟨7, 7, af, ag, (N : Int), nums, text⟩) l bs r).waits xs.length k = wq := by
      show ws ++ (r.waits xs.length (k + 1 + l.flat.length + bs.flat.length) ++ (l.waits (xs.length + (r.code 0).length) (k + 1) ++ actW (NodM.nod ⟨7, 7, af, ag, (N : Int), nums, text⟩) bs (k + 1 + l.flat.length) (xs.length + (r.code 0).length + (l.code 0).length))) = _
      rw [show actW (NodM.nod ⟨7, 7, af, ag, (N : Int), nums, text⟩) bs (k + 1 + l.flat.length) (xs.length + (r.code 0).length + (l.code 0).length) = [] from if_neg (show ¬ (7 : Int) = 6 by decide), List.append_nil, hwq, hwr, List.append_assoc]
    have hcd : (zs ++ [(⟨10, 0, 0, 0, 2, h, ⟨none, 0, []⟩, []⟩ : InsM)]).map InsM.ins = (Ex.two (NodM.nod ⟨7, 7, af, ag, (N : Int), nums, text⟩) l bs r).code h := by
      rw [List.map_append, hzm, List.append_assoc]
      show r.code h ++ (l.code h ++ [_]) = r.code h ++ (l.code h ++ [actI h (NodM.nod ⟨7, 7, af, ag, (N : Int), nums, text⟩) 2])
      rw [show actI h (NodM.nod ⟨7, 7, af, ag, (N : Int), nums, text⟩) 2 = _ from (if_neg (show ¬ (7 : Int) = 6 by decide)).trans (if_pos (show (7 : Int) = 7 from rfl))]
      rfl
    exact ⟨(G1, zs ++ [⟨10, 0, 0, 0, 2, h, ⟨none, 0, []⟩, []⟩], z, q1), ⟨hcd, fun x hx => by
      rcases List.mem_append.1 hx with hx | hx
      · exact hzsG x hx
      · rw [List.mem_singleton.1 hx]; exact ⟨by simp, Row.nil _ _ _, by simp⟩⟩, rfl, hgr, hw.ent (by rw [hwt, ← List.append_assoc xs zs]; exact zent)⟩
  · (repeat' (first|refine zza ?_|refine zc9 ?_|refine zzb fun w hw => ?_|refine zzh fun _ => ?_|refine zzi fun _ _ => ?_|refine zv1 ?_|refine zv2 ?_|refine zzj (fun _ => ?_) fun _ => ?_))
    refine CW_seq ?_
    (repeat' (first|refine zza ?_|refine zc9 ?_|refine zzb fun w hw => ?_|refine zzh fun _ => ?_|refine zzi fun _ _ => ?_|refine zv1 ?_|refine zv2 ?_|refine zzj (fun _ => ?_) fun _ => ?_))
    refine WL_callUX (m1 := [mkr b p L.length c (o1.1, (xs ++ zs).length, o1.2) (q1.1, wq.length, q1.2) h, outS (o1.1, (xs ++ zs).length, o1.2) (xs ++ zs)]) (r := [queS q1 wq, sl 3 1 zp.1 S.length zp.2 ((posI (k + 1) S).map (Value.int .i64)), blk b4 44 #[.int .i64 7, .int .i64 aop, .int .i64 af, .int .i64 ag, .int .i64 (N : Int), .slice nums.p nums.xs.length nums.c, .string ⟨text.toArray⟩]]) zent rfl rfl rfl (fun W fp' hO hS => code_put G1 b p L.length c o1 (q1.1, wq.length, q1.2) h (xs ++ zs) ⟨7, aop, af, ag, 0, 0, ⟨none, 0, []⟩, []⟩ W fp' hO hS (by rw [hlzs]; have := hxs.h; omega)) ?_
    rintro z _
    (repeat' (first|refine zza ?_|refine zc9 ?_|refine zzb fun w hw => ?_|refine zzh fun _ => ?_|refine zzi fun _ _ => ?_|refine zv1 ?_|refine zv2 ?_|refine zzj (fun _ => ?_) fun _ => ?_))
    have hwt : ws ++ (Ex.two (NodM.nod ⟨7, aop, af, ag, (N : Int), nums, text⟩) l bs r).waits xs.length k = wq := by
      show ws ++ (r.waits xs.length (k + 1 + l.flat.length + bs.flat.length) ++ (l.waits (xs.length + (r.code 0).length) (k + 1) ++ actW (NodM.nod ⟨7, aop, af, ag, (N : Int), nums, text⟩) bs (k + 1 + l.flat.length) (xs.length + (r.code 0).length + (l.code 0).length))) = _
      rw [show actW (NodM.nod ⟨7, aop, af, ag, (N : Int), nums, text⟩) bs (k + 1 + l.flat.length) (xs.length + (r.code 0).length + (l.code 0).length) = [] from if_neg h6, List.append_nil, hwq, hwr, List.append_assoc]
    have hcd : (zs ++ [(⟨7, aop, af, ag, 0, 0, ⟨none, 0, []⟩, []⟩ : InsM)]).map InsM.ins = (Ex.two (NodM.nod ⟨7, aop, af, ag, (N : Int), nums, text⟩) l bs r).code h := by
      rw [List.map_append, hzm, List.append_assoc]
      show r.code h ++ (l.code h ++ [_]) = r.code h ++ (l.code h ++ [actI h (NodM.nod ⟨7, aop, af, ag, (N : Int), nums, text⟩) 2])
      rw [show actI h (NodM.nod ⟨7, aop, af, ag, (N : Int), nums, text⟩) 2 = _ from (if_neg h6).trans (if_neg h77)]
      rfl
    exact ⟨(G1, zs ++ [⟨7, aop, af, ag, 0, 0, ⟨none, 0, []⟩, []⟩], z, q1), ⟨hcd, fun x hx => by
      rcases List.mem_append.1 hx with hx | hx
      · exact hzsG x hx
      · rw [List.mem_singleton.1 hx]; exact ⟨by simp, Row.nil _ _ _, by simp⟩⟩, rfl, hgr, hw.ent (by rw [hwt, ← List.append_assoc xs zs]; exact zent)⟩
end Go.Proofs.YtngeooflfkpikaaGreatDoor
