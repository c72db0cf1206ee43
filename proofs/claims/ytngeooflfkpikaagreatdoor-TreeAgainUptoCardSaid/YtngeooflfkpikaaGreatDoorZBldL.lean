/-
  The logic of walks: rows of bytes with a frozen head; strings.Builder in a block of any struct type that is laid out as one.
-/
import Derived.Test.YtngeooflfkpikaaGreatDoorZMem
import Derived.Test.YtngeooflfkpikaaGreatDoorZInst
import Derived.Test.YtngeooflfkpikaaGreatDoorZBuildL
namespace Go.Proofs.YtngeooflfkpikaaGreatDoor
open Go.RowKit
theorem ownsRowF_st {w w' : World} {e : TypeId} {sz n c : Nat} {p : Option Addr} {xs : List Value} (h : ∀ i ∈ blkOf p, w'.heap[i]? = w.heap[i]?) (k : w.ownsRowF 0 e sz (.slice p n c) n xs) : w'.ownsRowF 0 e sz (.slice p n c) n xs := by
  refine ⟨k.1, ?_⟩
  rcases k.2 with hn | ⟨g, cap, cur, fz, hv, hb, hg, r⟩
  · exact .inl hn
  · refine .inr ⟨g, cap, cur, fz, hv, hb, ?_, r⟩
    rw [h g ((ownBlock_blkOf p n c g).2 (by rw [hv]; rfl))]
    exact hg
def slF (e : TypeId) (sz : Nat) (p : Option Addr) (n c : Nat) (xs : List Value) : HP where
  p w fp := fp = blkOf p ∧ w.ownsRowF 0 e sz (.slice p n c) n xs
  st w w' fp h := by rintro ⟨rfl, k⟩; exact ⟨rfl, ownsRowF_st h k⟩
  lt w fp := by
    rintro ⟨rfl, k⟩ i hi
    exact (k.lt i ((ownBlock_blkOf p n c i).1 hi)).2
theorem Holds.slFR {w0 w : World} {F : List Nat} {m r : List HP} {e : TypeId} {sz n c : Nat} {p : Option Addr} {xs : List Value} (hh : Holds w0 F m w) (hp : Pick m (slF e sz p n c xs) r) : w.ownsRowF 0 e sz (.slice p n c) n xs := by
  obtain ⟨_, _, h⟩ := hh.pick hp
  exact h
section ops
variable {P : Program} {K : Cx} {ρ : Env} {m r : List HP} {dst : Option Nat} {ty t t' : TypeId} {pos : String} {aft : Array Edge} {g : Option (Nat × Bool)} {v : Value} {x y z : Operand} {ops : Array Oper} {Q : Exit → Act → World → Prop} {rest : List Oper} {d : Nat}
  {e : TypeId} {sz n c bytes : Nat} {zs xs : List Value} {p : Option Addr}
/-- where the grown slice lies: where it lay, or in a new block -/
theorem append_whereF {e : TypeId} {i : TypeInfo} {z : Value} {size bytes : Nat} (w : World) (ht : P.underlying t = some (.slice e)) (hi : P.info? e = some i) (hz : i.zero = some z)
    (hsize : i.size = size) (hby : i.bytes = bytes) (hzs : z.cells.size = size) (hsz : 0 < size)
    (v : Value) (n : Nat) (xs : List Value) (hown : w.ownsRowF 0 e size v n xs)
    (a : Addr) (m c : Nat) (news : List Value) (hl : news.length = m * size) (hnews : ∀ j u, news[j]? = some u → w.cell? (a.add j) = some u) (h1 : ∀ u ∈ news, u.oneCell' = true)
    (h63 : n + m ≤ maxLen) (hbytes : (n + m) * bytes ≤ 140737488355328) {v' : Value} {w' : World} (hr : (Builtin.append_ #[t, t] ty #[v, .slice (some a) m c]).run P w = .ok v' w') :
    ∀ g, v'.ownBlock = some g → v.ownBlock = some g ∨ w.heap.size ≤ g := by
  rcases hown.2 with ⟨rfl, rfl⟩ | ⟨g, cap, cur, fz, rfl, hbg, hg, hfz, hnc, hcm, hcs, htake⟩
  · obtain ⟨v2, w2, r1, r2, _⟩ := run_append_ownF (P := P) w w.heap.size t ty e i z size bytes ht hi hz hsize hby hzs hsz (.slice none 0 0) 0 xs ⟨hown.1, .inl ⟨rfl, rfl⟩⟩ a m c news hl hnews h1 h63 hbytes (Nat.le_refl _)
    rw [hr] at r1
    injection r1 with r1 _
    subst r1
    intro g hg
    exact .inr (r2.lt g hg).1
  · subst hsize
    subst hby
    have hsmall : n + m ≤ 9223372036854775807 := by simp only [maxLen] at h63; omega
    by_cases hroom : n + m ≤ cap
    · have hfit : n * i.size + news.length ≤ cur.size := by rw [hl, hcs, ← Nat.add_mul]; exact Nat.mul_le_mul_right _ hroom
      have h2 := run_append_roomF (P := P) w t ty e i ht hi g n cap cur fz hg hfz a m c news hl hnews h1 hroom hfit
      rw [hr] at h2
      injection h2 with h2 _
      subst h2
      intro g' hg'
      exact .inl hg'
    · have holds : ∀ j u, xs[j]? = some u → w.cell? ((⟨g, 0, none⟩ : Addr).add j) = some u := hown.cells (g := g) rfl
      have h2 := run_append_grow (P := P) w t ty e i z ht hi hz ⟨g, 0, none⟩ n cap xs hown.1 holds a m c news hl hnews (by omega) (by omega) (growslice_fits (by omega) hbytes)
      rw [hr] at h2
      injection h2 with h2 _
      subst h2
      intro g' hg'
      simp [Value.ownBlock] at hg'
      exact .inr (by omega)
/-- append of a block that was just built -/
theorem WL_appendF [S : ElT P t e sz zs bytes] {p' : Option Addr} {b n' c' : Nat} {cs : Array Value} {m1 r : List HP} (hx : opv ρ x = some (.slice p n c)) (hy : opv ρ y = some (.slice p' n' c')) (he : p' = some ⟨b, 0, none⟩)
    (hp : Pick m (slF e sz p n c xs) m1) (hp2 : Pick m1 (blk b e cs) r) (hl : cs.size = n' * sz) (h1' : cs.toList.all Value.oneCell' = true) (hmax : (n + n') * bytes ≤ 140737488355328) (hmax2 : n + n' ≤ 140737488355328)
    (hg : guardB ops g ρ = some true) (hn : (guardN K.N ops g && Nat.blt d K.N) = true) (k : ∀ q c'', WL P K ops Q rest ((d, .slice q (n + n') c'') :: ρ) (slF e sz q (n + n') c'' (xs ++ cs.toList) :: r)) :
    WL P K ops Q (⟨some d, .call ⟨.builtin .append, #[x, y], #[t, t]⟩, ty, pos, aft, g⟩ :: rest) ρ m := by
  refine WL_step hg hn fun a w hf hm => ?_
  obtain ⟨i, z, hi, hz, hsz, hby, hzs⟩ := S.info
  have h1 : ∀ u ∈ cs.toList, u.oneCell' = true := fun u hu => (List.all_eq_true.1 h1') u hu
  have hown := hm.slFR hp
  obtain ⟨fp, ⟨hfp, _⟩, _, hsp⟩ := hm.split hp
  have hb : w.heap[b]? = some (.cells cs e (0, 0)) := by
    have h2 := hsp [] w ⟨Keep.refl _ _, [], rfl, by simp⟩
    exact h2.blk hp2
  subst he
  have hnews : ∀ (j : Nat) u, cs.toList[j]? = some u → w.cell? ((⟨b, 0, none⟩ : Addr).add j) = some u := fun j u hu => by
    have ha : (⟨b, 0, none⟩ : Addr).add j = ⟨b, j, none⟩ := by unfold Addr.add; split <;> simp [*]
    rw [ha]; simp only [World.cell?, hb]; simpa using hu
  have hzl : z.cells.size = sz := by rw [hzs]; simp [S.len]
  obtain ⟨v', w', hr, h2, h3, _⟩ := run_append_ownF (P := P) w 0 t ty e i z sz bytes S.und hi hz hsz hby hzl S.pos (.slice p n c) n xs hown ⟨b, 0, none⟩ n' c' cs.toList (by simpa using hl) hnews h1 (by unfold maxLen; omega) hmax (Nat.zero_le _)
  have hwh := append_whereF (P := P) w S.und hi hz hsz hby hzl S.pos (.slice p n c) n xs hown ⟨b, 0, none⟩ n' c' cs.toList (by simpa using hl) hnews h1 (by unfold maxLen; omega) hmax hr
  obtain ⟨q, c'', rfl⟩ : ∃ q c'', v' = .slice q (n + n') c'' := by
    rcases h2.2 with ⟨hv, h0⟩ | ⟨g, cap, cur, fz, hv, _⟩
    · rw [h0]; exact ⟨_, _, hv⟩
    · exact ⟨_, _, hv⟩
  refine ⟨_, slF e sz q (n + n') c'' (xs ++ cs.toList) :: r, w', run_bi hf hx hy hr, ?_, k q c''⟩
  have hH : Holds w fp [slF e sz q (n + n') c'' (xs ++ cs.toList)] w' := by
    refine ⟨keep_grown h3 (fun i hi => by rw [hfp]; exact (ownBlock_blkOf p n c i).2 hi), blkOf q, ⟨blkOf q, [], by simp, ⟨rfl, h2⟩, rfl, by simp⟩, fun i hi hl => ?_⟩
    have h5 := (ownBlock_blkOf q (n + n') c'' i).1 hi
    rw [hfp]
    rcases hwh i h5 with h | h
    · exact (ownBlock_blkOf p n c i).2 h
    · omega
  exact (hsp _ w' hH).ent (Ent.sub (r2 := r) hp2)
theorem append_whereS {u e : TypeId} {i : TypeInfo} (w : World) (ht : P.underlying t = some (.slice e)) (hu : P.underlying u = some .string) (hi : P.info? e = some i) (hz : i.zero = some (.int .u8 0)) (hsize : i.size = 1) (hby : i.bytes = 1)
    (v : Value) (n : Nat) (xs : List Value) (hown : w.ownsRowF 0 e 1 v n xs) (s : ByteArray) (h63 : n + s.size ≤ maxLen) (hbytes : n + s.size ≤ 140737488355328) {v' : Value} {w' : World} (hr : (Builtin.append_ #[t, u] ty #[v, .string s]).run P w = .ok v' w') :
    ∀ g, v'.ownBlock = some g → v.ownBlock = some g ∨ w.heap.size ≤ g := by
  rcases hown.2 with ⟨rfl, rfl⟩ | ⟨g, cap, cur, fz, rfl, hbg, hg, hfz, hnc, hcm, hcs, htake⟩
  · obtain ⟨v2, w2, r1, r2, _⟩ := Lib.run_append_own_stringF (P := P) w w.heap.size t u ty e i ht hu hi hz hsize hby (.slice none 0 0) 0 xs ⟨hown.1, .inl ⟨rfl, rfl⟩⟩ s h63 hbytes (Nat.le_refl _)
    rw [hr] at r1
    injection r1 with r1 _
    subst r1
    intro g hg
    exact .inr (r2.lt g hg).1
  · have hsmall : n + s.size ≤ 9223372036854775807 := by simp only [maxLen] at h63; omega
    have hxl : xs.length = n := by simpa using hown.1
    by_cases hroom : n + s.size ≤ cap
    · have hcs' : cur.size = cap := by simpa using hcs
      have h2 := Lib.run_append_room_stringF (P := P) w t u ty e i ht hu hi hsize g n cap cur fz hg (by simpa using hfz) s hroom (by omega)
      rw [hr] at h2
      injection h2 with h2 _
      subst h2
      intro g' hg'
      exact .inl hg'
    · have holds : ∀ j u, xs[j]? = some u → w.cell? ((⟨g, 0, none⟩ : Addr).add j) = some u := hown.cells (g := g) rfl
      have h2 := Lib.run_append_grow_string (P := P) w t u ty e i (.int .u8 0) ht hu hi hz ⟨g, 0, none⟩ n cap xs (by rw [hsize]; simpa using hxl) holds s (by omega) (by omega) (by rw [hby]; exact growslice_fits (by omega) (by omega))
      rw [hr] at h2
      injection h2 with h2 _
      subst h2
      intro g' hg'
      simp [Value.ownBlock] at hg'
      exact .inr (by omega)
/-- append of a string's bytes -/
theorem WL_appendS [S : ElT P t e 1 [.int .u8 0] 1] [O : OneT P e (.int .u8 0)] [U : StrT P t'] {l : List UInt8} (hx : opv ρ x = some (.slice p n c)) (hy : opv ρ y = some (.string ⟨l.toArray⟩)) (hp : Pick m (slF e 1 p n c xs) r) (hmax : n + l.length ≤ 140737488355328)
    (hg : guardB ops g ρ = some true) (hn : (guardN K.N ops g && Nat.blt d K.N) = true) (k : ∀ q c'', WL P K ops Q rest ((d, .slice q (n + l.length) c'') :: ρ) (slF e 1 q (n + l.length) c'' (xs ++ Lib.byteCells l) :: r)) :
    WL P K ops Q (⟨some d, .call ⟨.builtin .append, #[x, y], #[t, t']⟩, ty, pos, aft, g⟩ :: rest) ρ m := by
  refine WL_step hg hn fun a w hf hm => ?_
  obtain ⟨i, z, hi, hz, hsz, hby, hzs⟩ := S.info
  have hown := hm.slFR hp
  obtain ⟨fp, ⟨hfp, _⟩, _, hsp⟩ := hm.split hp
  have hz' : i.zero = some (.int .u8 0) := by
    have := O.zero w
    simp [zeroValue, typeInfo, hi, hz] at this
    rw [hz, this]
  have hss : (⟨l.toArray⟩ : ByteArray).size = l.length := by simp [ByteArray.size]
  obtain ⟨v', w', hr, h2, h3, _⟩ := Lib.run_append_own_stringF (P := P) w 0 t t' ty e i S.und U.und hi hz' hsz hby (.slice p n c) n xs hown ⟨l.toArray⟩ (by unfold maxLen; omega) (by omega) (Nat.zero_le _)
  have hwh := append_whereS (P := P) w S.und U.und hi hz' hsz hby (.slice p n c) n xs hown ⟨l.toArray⟩ (by unfold maxLen; omega) (by omega) hr
  rw [hss] at h2
  have hsc : Lib.strCells ⟨l.toArray⟩ = Lib.byteCells l := by simp [Lib.strCells, Lib.byteCells]
  rw [hsc] at h2
  obtain ⟨q, c'', rfl⟩ : ∃ q c'', v' = .slice q (n + l.length) c'' := by
    rcases h2.2 with ⟨hv, h0⟩ | ⟨g, cap, cur, fz, hv, _⟩
    · rw [h0]; exact ⟨_, _, hv⟩
    · exact ⟨_, _, hv⟩
  refine ⟨_, slF e 1 q (n + l.length) c'' (xs ++ Lib.byteCells l) :: r, w', ?_, ?_, k q c''⟩
  · unfold execOp
    simp only [resolve, invoke, builtin, Sem.run_bind, Sem.run_pure, Result.andThen_ok, List.map_toArray, List.map_cons, List.map_nil, hf.eval hx, hf.eval hy, hr]
  · refine hsp [slF e 1 q (n + l.length) c'' (xs ++ Lib.byteCells l)] w' ⟨keep_grown h3 (fun i hi => by rw [hfp]; exact (ownBlock_blkOf p n c i).2 hi), blkOf q, ⟨blkOf q, [], by simp, ⟨rfl, h2⟩, rfl, by simp⟩, fun i hi hl => ?_⟩
    have h5 := (ownBlock_blkOf q (n + l.length) c'' i).1 hi
    rw [hfp]
    rcases hwh i h5 with h | h
    · exact (ownBlock_blkOf p n c i).2 h
    · omega
end ops
/-! ## strings.Builder -/
/-- block b, of type T, holds a Builder that has written l -/
def bldr (T : TypeId) (b : Nat) (l : List UInt8) : HP where
  p w fp := ∃ p q c, (p = .pointer none ∨ p = .pointer (some ⟨b, 0, none⟩)) ∧ w.heap[b]? = some (.cells #[p, .slice q l.length c] T (0, 0)) ∧ w.ownsRowF 0 5 1 (.slice q l.length c) l.length (Lib.byteCells l) ∧ b ∉ blkOf q ∧ fp = b :: blkOf q
  st w w' fp h := by
    rintro ⟨p, q, c, hp, hb, hown, hne, rfl⟩
    exact ⟨p, q, c, hp, (h b (by simp)).trans hb, ownsRowF_st (fun i hi => h i (by simp [hi])) hown, hne, rfl⟩
  lt w fp := by
    rintro ⟨p, q, c, hp, hb, hown, hne, rfl⟩ i hi
    rcases List.mem_cons.1 hi with rfl | hi
    · exact (Array.getElem?_eq_some_iff.1 hb).1
    · exact (hown.lt i ((ownBlock_blkOf q _ c i).1 hi)).2
theorem bldr_open {T : TypeId} {b : Nat} {l : List UInt8} {w : World} {fp : List Nat} (h : (bldr T b l).p w fp) : ∃ p q c, (p = .pointer none ∨ p = .pointer (some ⟨b, 0, none⟩)) ∧ Own [blk b T #[p, .slice q l.length c], slF 5 1 q l.length c (Lib.byteCells l)] fp w := by
  obtain ⟨p, q, c, hp, hb, hown, hne, rfl⟩ := h
  refine ⟨p, q, c, hp, [b], blkOf q, rfl, ⟨rfl, hb⟩, ⟨blkOf q, [], by simp, ⟨rfl, hown⟩, rfl, by simp⟩, fun i hi => ?_⟩
  have : i = b := by simpa using hi
  rw [this]; exact hne
theorem bldr_close {T : TypeId} {b c n : Nat} {p : Value} {q : Option Addr} {l : List UInt8} {xs : List Value} (hp : p = .pointer none ∨ p = .pointer (some ⟨b, 0, none⟩)) (hn : n = l.length) (hx : xs = Lib.byteCells l) : Ent [blk b T #[p, .slice q n c], slF 5 1 q n c xs] [bldr T b l] := fun fp w ho => by
  subst hn; subst hx
  obtain ⟨f1, f2, rfl, ⟨rfl, hb⟩, ⟨g1, g2, rfl, ⟨rfl, hown⟩, h0, _⟩, hd⟩ := ho
  simp only [Own] at h0
  subst h0
  refine ⟨b :: blkOf q, ⟨b :: blkOf q, [], by simp, ⟨p, q, c, hp, hb, hown, by simpa using hd b (by simp), rfl⟩, rfl, by simp⟩, fun i hi => by simpa using hi⟩
theorem copyCheck_any (T : TypeId) (L : Lies T) (b : Nat) (p : Value) (q : Option Addr) (n c : Nat) (hp : p = .pointer none ∨ p = .pointer (some ⟨b, 0, none⟩)) (w : World) (fp : List Nat) (h : (blk b T #[p, .slice q n c]).p w fp) :
    Calls Tryz.prog 195 #[.pointer (some ⟨b, 0, none⟩)] w fun e w' => ∃ _ : Unit, True ∧ e = .returned (.tuple #[]) ∧ Holds w fp [blk b T #[.pointer (some ⟨b, 0, none⟩), .slice q n c]] w' := by
  obtain ⟨rfl, hb⟩ := h
  rcases hp with rfl | rfl
  · refine (bld_copyCheck_fresh T L b w (by simp [World.cell?, hb]) (by simp [World.shape?, hb]) (by simp [World.frozen?, hb])).mono ?_
    rintro e w' ⟨rfl, rfl⟩
    refine ⟨(), trivial, rfl, ?_⟩
    have h1 : Holds w [b] [blk b T #[.pointer none, .slice q n c]] w := Holds.start ⟨[b], [], rfl, ⟨rfl, hb⟩, rfl, by simp⟩
    have h2 := h1.set Pick.here 0 (.pointer (some ⟨b, 0, none⟩))
    exact h2
  · refine (bld_copyCheck_used b w (by simp [World.cell?, hb])).mono ?_
    rintro e w' ⟨rfl, rfl⟩
    exact ⟨(), trivial, rfl, Holds.start ⟨[b], [], rfl, ⟨rfl, hb⟩, rfl, by simp⟩⟩
set_option maxRecDepth 100000 in
theorem bldr_WriteByte (T : TypeId) (L : Lies T) (b : Nat) (l : List UInt8) (x : UInt8) (w : World) (fp : List Nat) (h : (bldr T b l).p w fp) (hlen : l.length + 1 ≤ 140737488355328) :
    Calls Tryz.prog 253 #[.pointer (some ⟨b, 0, none⟩), .int .u8 (x.toNat : Int)] w fun e w' => ∃ _ : Unit, True ∧ e = .returned .nilIface ∧ Holds w fp [bldr T b (l ++ [x])] w' := by
  obtain ⟨p, q, c, hp, ho⟩ := bldr_open h
  refine enter (args := [_, _]) Tryz.func253 rfl Tryz.ntmps253 (by simp) ho ?_
  (repeat' (first | (apply WL_op rfl rfl; (first | exact y_notD rfl | exact y_pure rfl | exact y_add rfl rfl (by omega) | exact y_sub rfl rfl (by omega) | exact y_mul rfl rfl (by first | assumption | (unfold I64; omega)) | exact y_len_sl rfl | exact y_iface rfl | exact y_fieldAddr rfl rfl | (apply y_load; rfl; (first | exact rd_blk (by first | exact .here | exact .there .here | exact .there (.there .here) | exact .there (.there (.there .here)) | exact .there (.there (.there (.there .here))) | exact .there (.there (.there (.there (.there .here)))) | exact .there (.there (.there (.there (.there (.there .here)))))) rfl | (apply rd_ints; (apply ints_base; assumption; rfl); omega) | (apply rd_ints; (apply ints_keep; assumption; assumption); omega) | (apply rd_ints; (intro W hW; refine (hW.ints ?_ ?_).2; (first | exact .here | exact .there .here | exact .there (.there .here) | exact .there (.there (.there .here)) | exact .there (.there (.there (.there .here))) | exact .there (.there (.there (.there (.there .here)))) | exact .there (.there (.there (.there (.there (.there .here)))))); assumption); omega) | (apply rd_intsR; (first | assumption | (apply IntsR.of; assumption)); (first | exact .here | exact .there .here | exact .there (.there .here) | exact .there (.there (.there .here)) | exact .there (.there (.there (.there .here))) | exact .there (.there (.there (.there (.there .here)))) | exact .there (.there (.there (.there (.there (.there .here)))))); omega))) | (apply y_ix; rfl; rfl; assumption; omega; omega) | (apply y_ixz; rfl; rfl; assumption; omega; omega) | (apply y_loadB; rfl; exact (by first | exact .here | exact .there .here | exact .there (.there .here) | exact .there (.there (.there .here)) | exact .there (.there (.there (.there .here))) | exact .there (.there (.there (.there (.there .here)))) | exact .there (.there (.there (.there (.there (.there .here)))))); rfl) | (apply y_ixo1; rfl; rfl; (first | exact .here | exact .there .here | exact .there (.there .here) | exact .there (.there (.there .here)) | exact .there (.there (.there (.there .here))) | exact .there (.there (.there (.there (.there .here)))) | exact .there (.there (.there (.there (.there (.there .here)))))); omega) | exact y_len_str rfl | exact y_quo rfl rfl (by omega) | exact y_rem' rfl rfl (by omega) | exact y_byte rfl rfl (by omega) | exact y_cat rfl rfl (by first | omega | (simp; omega)) | exact y_seq rfl rfl | exact y_sne rfl rfl | exact y_neg rfl (by omega) | (apply y_conv_in; rfl; rfl) | (apply y_conv_in; rfl; first | exact IntWalk.i64_in _ (by omega) | exact IntWalk.i32_in _ (by omega) | exact IntWalk.u8_in _ (by omega) | exact IntWalk.u32_in _ (by omega)) | (apply y_conv_u8; rfl) | (first | exact y_shrq 6 64 rfl rfl rfl rfl | exact y_shrq 12 4096 rfl rfl rfl rfl | exact y_shrq 18 262144 rfl rfl rfl rfl | exact y_shrq 1 2 rfl rfl rfl rfl | exact y_shrq 7 128 rfl rfl rfl rfl | exact y_shrq 8 256 rfl rfl rfl rfl) | exact y_and63 rfl rfl (by omega) | (first | (apply y_or8 6; rfl; rfl; omega; omega) | (apply y_or8 5; rfl; rfl; omega; omega) | (apply y_or8 4; rfl; rfl; omega; omega)) | exact y_neN rfl | exact y_neI rfl | exact y_eqN rfl | exact y_eqI rfl | (apply y_slice; rfl; rfl; rfl; (first | rfl | assumption | exact IntsAt.some_lt (by assumption) (by assumption)); omega; omega; omega) | exact y_beq rfl rfl | exact y_bne rfl rfl)) | refine WL_nil ?_ | refine WQ_end ?_ | refine CW_seqN rfl ?_ | refine CW_region ?_ | refine CW_condT rfl ?_ | refine CW_condF rfl ?_ | refine CW_condP rfl (by omega) ?_ | refine CW_condN rfl (by omega) ?_ | refine CW_skip ?_ | refine CW_ret ?_ | refine CW_exit ?_ | refine CW_block ?_ | refine EX_seq ?_ | refine EX_seq_ret ?_ | refine EX_blk ?_ | refine EX_blk_ret ?_ | refine EX_loop_ret ?_ | refine EX_blk_eq rfl ?_ | refine EX_blk_ne rfl ?_ | refine EX_seq_exit ?_ | refine EX_loop_exit ?_ | refine EX_mid_ret ?_ | refine EX_mid_exit ?_ | refine EX_ret1 rfl rfl rfl (fun w hw => ?_) | refine EX_ret2 rfl rfl rfl rfl (fun w hw => ?_) | refine EX_ret0 rfl rfl (fun w hw => ?_) | refine EX_end0 rfl rfl (fun w hw => ?_) | refine EX_ret3 rfl rfl rfl rfl rfl (fun w hw => ?_) | refine WL_no rfl rfl ?_ | refine WQ_no rfl rfl ?_ | refine WQ_gP rfl rfl (by omega) ?_ | refine WQ_gN rfl rfl (by omega) ?_ | refine WQ_gD rfl rfl (fun _ => ?_) (fun _ => ?_) | refine CW_quietE rfl (by kernel_rfl) (by kernel_rfl) ?_ | refine CW_mkE 1 rfl (by kernel_rfl) (by decide +kernel) ?_ | refine CW_mkE 2 rfl (by kernel_rfl) (by decide +kernel) ?_ | refine CW_mkE 3 rfl (by kernel_rfl) (by decide +kernel) ?_ | refine CW_mkE 4 rfl (by kernel_rfl) (by decide +kernel) ?_ | refine CW_mkE 5 rfl (by kernel_rfl) (by decide +kernel) ?_ | refine CW_mkE 6 rfl (by kernel_rfl) (by decide +kernel) ?_ | refine CW_mkE 7 rfl (by kernel_rfl) (by decide +kernel) ?_ | refine CW_mkE 8 rfl (by kernel_rfl) (by decide +kernel) ?_ | refine CW_mkE 9 rfl (by kernel_rfl) (by decide +kernel) ?_ | refine CW_mkE 10 rfl (by kernel_rfl) (by decide +kernel) ?_ | refine CW_mkE 11 rfl (by kernel_rfl) (by decide +kernel) ?_ | refine CW_mkE 12 rfl (by kernel_rfl) (by decide +kernel) ?_ | refine CW_mkE 13 rfl (by kernel_rfl) (by decide +kernel) ?_ | refine CW_mkE 14 rfl (by kernel_rfl) (by decide +kernel) ?_ | refine WB_no rfl rfl ?_ | refine WB_end ?_ | refine CW_quiet (by kernel_rfl) (by kernel_rfl) ?_ | refine WL_gP rfl rfl (by omega) ?_ | refine WL_gN rfl rfl (by omega) ?_ | refine WL_gD rfl rfl (fun _ => ?_) (fun _ => ?_) | refine WL_box rfl rfl rfl (fun _ => ?_) | refine CW_condD rfl (fun _ => ?_) (fun _ => ?_) | refine CW_cond rfl (fun _ => ?_) (fun _ => ?_)))
  refine WL_callW rfl rfl rfl Pick.here (fun w fp _ h _ => copyCheck_any T L b p q _ c hp w fp h) (fun _ _ => ?_)
  (repeat' (first | (apply WL_op rfl rfl; (first | exact y_notD rfl | exact y_pure rfl | exact y_add rfl rfl (by omega) | exact y_sub rfl rfl (by omega) | exact y_mul rfl rfl (by first | assumption | (unfold I64; omega)) | exact y_len_sl rfl | exact y_iface rfl | exact y_fieldAddr rfl rfl | (apply y_load; rfl; (first | exact rd_blk (by first | exact .here | exact .there .here | exact .there (.there .here) | exact .there (.there (.there .here)) | exact .there (.there (.there (.there .here))) | exact .there (.there (.there (.there (.there .here)))) | exact .there (.there (.there (.there (.there (.there .here)))))) rfl | (apply rd_ints; (apply ints_base; assumption; rfl); omega) | (apply rd_ints; (apply ints_keep; assumption; assumption); omega) | (apply rd_ints; (intro W hW; refine (hW.ints ?_ ?_).2; (first | exact .here | exact .there .here | exact .there (.there .here) | exact .there (.there (.there .here)) | exact .there (.there (.there (.there .here))) | exact .there (.there (.there (.there (.there .here)))) | exact .there (.there (.there (.there (.there (.there .here)))))); assumption); omega) | (apply rd_intsR; (first | assumption | (apply IntsR.of; assumption)); (first | exact .here | exact .there .here | exact .there (.there .here) | exact .there (.there (.there .here)) | exact .there (.there (.there (.there .here))) | exact .there (.there (.there (.there (.there .here)))) | exact .there (.there (.there (.there (.there (.there .here)))))); omega))) | (apply y_ix; rfl; rfl; assumption; omega; omega) | (apply y_ixz; rfl; rfl; assumption; omega; omega) | (apply y_loadB; rfl; exact (by first | exact .here | exact .there .here | exact .there (.there .here) | exact .there (.there (.there .here)) | exact .there (.there (.there (.there .here))) | exact .there (.there (.there (.there (.there .here)))) | exact .there (.there (.there (.there (.there (.there .here)))))); rfl) | (apply y_ixo1; rfl; rfl; (first | exact .here | exact .there .here | exact .there (.there .here) | exact .there (.there (.there .here)) | exact .there (.there (.there (.there .here))) | exact .there (.there (.there (.there (.there .here)))) | exact .there (.there (.there (.there (.there (.there .here)))))); omega) | exact y_len_str rfl | exact y_quo rfl rfl (by omega) | exact y_rem' rfl rfl (by omega) | exact y_byte rfl rfl (by omega) | exact y_cat rfl rfl (by first | omega | (simp; omega)) | exact y_seq rfl rfl | exact y_sne rfl rfl | exact y_neg rfl (by omega) | (apply y_conv_in; rfl; rfl) | (apply y_conv_in; rfl; first | exact IntWalk.i64_in _ (by omega) | exact IntWalk.i32_in _ (by omega) | exact IntWalk.u8_in _ (by omega) | exact IntWalk.u32_in _ (by omega)) | (apply y_conv_u8; rfl) | (first | exact y_shrq 6 64 rfl rfl rfl rfl | exact y_shrq 12 4096 rfl rfl rfl rfl | exact y_shrq 18 262144 rfl rfl rfl rfl | exact y_shrq 1 2 rfl rfl rfl rfl | exact y_shrq 7 128 rfl rfl rfl rfl | exact y_shrq 8 256 rfl rfl rfl rfl) | exact y_and63 rfl rfl (by omega) | (first | (apply y_or8 6; rfl; rfl; omega; omega) | (apply y_or8 5; rfl; rfl; omega; omega) | (apply y_or8 4; rfl; rfl; omega; omega)) | exact y_neN rfl | exact y_neI rfl | exact y_eqN rfl | exact y_eqI rfl | (apply y_slice; rfl; rfl; rfl; (first | rfl | assumption | exact IntsAt.some_lt (by assumption) (by assumption)); omega; omega; omega) | exact y_beq rfl rfl | exact y_bne rfl rfl)) | refine WL_nil ?_ | refine WQ_end ?_ | refine CW_seqN rfl ?_ | refine CW_region ?_ | refine CW_condT rfl ?_ | refine CW_condF rfl ?_ | refine CW_condP rfl (by omega) ?_ | refine CW_condN rfl (by omega) ?_ | refine CW_skip ?_ | refine CW_ret ?_ | refine CW_exit ?_ | refine CW_block ?_ | refine EX_seq ?_ | refine EX_seq_ret ?_ | refine EX_blk ?_ | refine EX_blk_ret ?_ | refine EX_loop_ret ?_ | refine EX_blk_eq rfl ?_ | refine EX_blk_ne rfl ?_ | refine EX_seq_exit ?_ | refine EX_loop_exit ?_ | refine EX_mid_ret ?_ | refine EX_mid_exit ?_ | refine EX_ret1 rfl rfl rfl (fun w hw => ?_) | refine EX_ret2 rfl rfl rfl rfl (fun w hw => ?_) | refine EX_ret0 rfl rfl (fun w hw => ?_) | refine EX_end0 rfl rfl (fun w hw => ?_) | refine EX_ret3 rfl rfl rfl rfl rfl (fun w hw => ?_) | refine WL_no rfl rfl ?_ | refine WQ_no rfl rfl ?_ | refine WQ_gP rfl rfl (by omega) ?_ | refine WQ_gN rfl rfl (by omega) ?_ | refine WQ_gD rfl rfl (fun _ => ?_) (fun _ => ?_) | refine CW_quietE rfl (by kernel_rfl) (by kernel_rfl) ?_ | refine CW_mkE 1 rfl (by kernel_rfl) (by decide +kernel) ?_ | refine CW_mkE 2 rfl (by kernel_rfl) (by decide +kernel) ?_ | refine CW_mkE 3 rfl (by kernel_rfl) (by decide +kernel) ?_ | refine CW_mkE 4 rfl (by kernel_rfl) (by decide +kernel) ?_ | refine CW_mkE 5 rfl (by kernel_rfl) (by decide +kernel) ?_ | refine CW_mkE 6 rfl (by kernel_rfl) (by decide +kernel) ?_ | refine CW_mkE 7 rfl (by kernel_rfl) (by decide +kernel) ?_ | refine CW_mkE 8 rfl (by kernel_rfl) (by decide +kernel) ?_ | refine CW_mkE 9 rfl (by kernel_rfl) (by decide +kernel) ?_ | refine CW_mkE 10 rfl (by kernel_rfl) (by decide +kernel) ?_ | refine CW_mkE 11 rfl (by kernel_rfl) (by decide +kernel) ?_ | refine CW_mkE 12 rfl (by kernel_rfl) (by decide +kernel) ?_ | refine CW_mkE 13 rfl (by kernel_rfl) (by decide +kernel) ?_ | refine CW_mkE 14 rfl (by kernel_rfl) (by decide +kernel) ?_ | refine WB_no rfl rfl ?_ | refine WB_end ?_ | refine CW_quiet (by kernel_rfl) (by kernel_rfl) ?_ | refine WL_gP rfl rfl (by omega) ?_ | refine WL_gN rfl rfl (by omega) ?_ | refine WL_gD rfl rfl (fun _ => ?_) (fun _ => ?_) | refine WL_box rfl rfl rfl (fun _ => ?_) | refine CW_condD rfl (fun _ => ?_) (fun _ => ?_) | refine CW_cond rfl (fun _ => ?_) (fun _ => ?_) | (apply WL_bslice; rfl; rfl; rfl; rfl; rfl; rfl; rfl; intro _) | (apply WL_append; rfl; rfl; rfl; (first | exact .here | exact .there .here | exact .there (.there .here) | exact .there (.there (.there .here)) | exact .there (.there (.there (.there .here))) | exact .there (.there (.there (.there (.there .here)))) | exact .there (.there (.there (.there (.there (.there .here)))))); (first | exact .here | exact .there .here | exact .there (.there .here) | exact .there (.there (.there .here)) | exact .there (.there (.there (.there .here))) | exact .there (.there (.there (.there (.there .here)))) | exact .there (.there (.there (.there (.there (.there .here)))))); rfl; rfl; (first | omega | (simp only [List.length_append, List.length_cons, List.length_nil, List.length_map, List.length_take, List.length_drop]; omega) | (simp; omega)); (first | omega | (simp only [List.length_append, List.length_cons, List.length_nil, List.length_map, List.length_take, List.length_drop]; omega) | (simp; omega)); rfl; rfl; intro _ _) | (apply WL_appendF; rfl; rfl; rfl; (first | exact .here | exact .there .here | exact .there (.there .here) | exact .there (.there (.there .here)) | exact .there (.there (.there (.there .here))) | exact .there (.there (.there (.there (.there .here)))) | exact .there (.there (.there (.there (.there (.there .here)))))); (first | exact .here | exact .there .here | exact .there (.there .here) | exact .there (.there (.there .here)) | exact .there (.there (.there (.there .here))) | exact .there (.there (.there (.there (.there .here)))) | exact .there (.there (.there (.there (.there (.there .here)))))); rfl; rfl; (first | omega | (simp only [List.length_append, List.length_cons, List.length_nil, List.length_map, List.length_take, List.length_drop]; omega) | (simp; omega)); (first | omega | (simp only [List.length_append, List.length_cons, List.length_nil, List.length_map, List.length_take, List.length_drop]; omega) | (simp; omega)); rfl; rfl; intro _ _) | (apply WL_appendS; rfl; rfl; (first | exact .here | exact .there .here | exact .there (.there .here) | exact .there (.there (.there .here)) | exact .there (.there (.there (.there .here))) | exact .there (.there (.there (.there (.there .here)))) | exact .there (.there (.there (.there (.there (.there .here)))))); (first | omega | (simp only [List.length_append, List.length_cons, List.length_nil, List.length_map, List.length_take, List.length_drop]; omega) | (simp; omega)); rfl; rfl; intro _ _) | (apply WL_store; rfl; rfl; rfl; (first | exact .here | exact .there .here | exact .there (.there .here) | exact .there (.there (.there .here)) | exact .there (.there (.there (.there .here))) | exact .there (.there (.there (.there (.there .here)))) | exact .there (.there (.there (.there (.there (.there .here)))))); rfl; rfl; rfl) | (apply WL_storeS; rfl; rfl; rfl; (first | exact .here | exact .there .here | exact .there (.there .here) | exact .there (.there (.there .here)) | exact .there (.there (.there (.there .here))) | exact .there (.there (.there (.there (.there .here)))) | exact .there (.there (.there (.there (.there (.there .here)))))); (first | omega | (simp only [List.length_append, List.length_cons, List.length_nil, List.length_map, List.length_take, List.length_drop]; omega) | (simp; omega)); rfl; rfl) | (apply WL_alloc; rfl; rfl; intro _) | (apply WL_makeI; rfl; rfl; (first | omega | (simp only [List.length_append, List.length_cons, List.length_nil, List.length_map, List.length_take, List.length_drop]; omega) | (simp; omega)); (first | omega | (simp only [List.length_append, List.length_cons, List.length_nil, List.length_map, List.length_take, List.length_drop]; omega) | (simp; omega)); rfl; rfl; intro _) | (apply WL_storeW; rfl; rfl; rfl; (first | exact .here | exact .there .here | exact .there (.there .here) | exact .there (.there (.there .here)) | exact .there (.there (.there (.there .here))) | exact .there (.there (.there (.there (.there .here)))) | exact .there (.there (.there (.there (.there (.there .here)))))); rfl; rfl; rfl; rfl) | (apply WL_op rfl rfl; apply y_build; rfl; rfl) | (apply EX_retC rfl rfl rfl (by first | exact .here | exact .there .here | exact .there (.there .here) | exact .there (.there (.there .here)) | exact .there (.there (.there (.there .here))) | exact .there (.there (.there (.there (.there .here)))) | exact .there (.there (.there (.there (.there (.there .here)))))) rfl; intro w hw) | (apply EX_endC rfl rfl rfl (by first | exact .here | exact .there .here | exact .there (.there .here) | exact .there (.there (.there .here)) | exact .there (.there (.there (.there .here))) | exact .there (.there (.there (.there (.there .here)))) | exact .there (.there (.there (.there (.there (.there .here)))))) rfl; intro w hw)))
  exact ⟨(), trivial, rfl, hw.ent (bldr_close (.inr rfl) (by simp) (by simp [Lib.byteCells]; rfl))⟩
set_option maxRecDepth 100000 in
theorem bldr_WriteString (T : TypeId) (L : Lies T) (b : Nat) (l s : List UInt8) (w : World) (fp : List Nat) (h : (bldr T b l).p w fp) (hlen : l.length + s.length ≤ 140737488355328) :
    Calls Tryz.prog 103 #[.pointer (some ⟨b, 0, none⟩), .string ⟨s.toArray⟩] w fun e w' => ∃ _ : Unit, True ∧ e = .returned (.tuple #[.int .i64 (s.length : Int), .nilIface]) ∧ Holds w fp [bldr T b (l ++ s)] w' := by
  obtain ⟨p, q, c, hp, ho⟩ := bldr_open h
  refine enter (args := [_, _]) Tryz.func103 rfl Tryz.ntmps103 (by simp) ho ?_
  (repeat' (first | (apply WL_op rfl rfl; (first | exact y_notD rfl | exact y_pure rfl | exact y_add rfl rfl (by omega) | exact y_sub rfl rfl (by omega) | exact y_mul rfl rfl (by first | assumption | (unfold I64; omega)) | exact y_len_sl rfl | exact y_iface rfl | exact y_fieldAddr rfl rfl | (apply y_load; rfl; (first | exact rd_blk (by first | exact .here | exact .there .here | exact .there (.there .here) | exact .there (.there (.there .here)) | exact .there (.there (.there (.there .here))) | exact .there (.there (.there (.there (.there .here)))) | exact .there (.there (.there (.there (.there (.there .here)))))) rfl | (apply rd_ints; (apply ints_base; assumption; rfl); omega) | (apply rd_ints; (apply ints_keep; assumption; assumption); omega) | (apply rd_ints; (intro W hW; refine (hW.ints ?_ ?_).2; (first | exact .here | exact .there .here | exact .there (.there .here) | exact .there (.there (.there .here)) | exact .there (.there (.there (.there .here))) | exact .there (.there (.there (.there (.there .here)))) | exact .there (.there (.there (.there (.there (.there .here)))))); assumption); omega) | (apply rd_intsR; (first | assumption | (apply IntsR.of; assumption)); (first | exact .here | exact .there .here | exact .there (.there .here) | exact .there (.there (.there .here)) | exact .there (.there (.there (.there .here))) | exact .there (.there (.there (.there (.there .here)))) | exact .there (.there (.there (.there (.there (.there .here)))))); omega))) | (apply y_ix; rfl; rfl; assumption; omega; omega) | (apply y_ixz; rfl; rfl; assumption; omega; omega) | (apply y_loadB; rfl; exact (by first | exact .here | exact .there .here | exact .there (.there .here) | exact .there (.there (.there .here)) | exact .there (.there (.there (.there .here))) | exact .there (.there (.there (.there (.there .here)))) | exact .there (.there (.there (.there (.there (.there .here)))))); rfl) | (apply y_ixo1; rfl; rfl; (first | exact .here | exact .there .here | exact .there (.there .here) | exact .there (.there (.there .here)) | exact .there (.there (.there (.there .here))) | exact .there (.there (.there (.there (.there .here)))) | exact .there (.there (.there (.there (.there (.there .here)))))); omega) | exact y_len_str rfl | exact y_quo rfl rfl (by omega) | exact y_rem' rfl rfl (by omega) | exact y_byte rfl rfl (by omega) | exact y_cat rfl rfl (by first | omega | (simp; omega)) | exact y_seq rfl rfl | exact y_sne rfl rfl | exact y_neg rfl (by omega) | (apply y_conv_in; rfl; rfl) | (apply y_conv_in; rfl; first | exact IntWalk.i64_in _ (by omega) | exact IntWalk.i32_in _ (by omega) | exact IntWalk.u8_in _ (by omega) | exact IntWalk.u32_in _ (by omega)) | (apply y_conv_u8; rfl) | (first | exact y_shrq 6 64 rfl rfl rfl rfl | exact y_shrq 12 4096 rfl rfl rfl rfl | exact y_shrq 18 262144 rfl rfl rfl rfl | exact y_shrq 1 2 rfl rfl rfl rfl | exact y_shrq 7 128 rfl rfl rfl rfl | exact y_shrq 8 256 rfl rfl rfl rfl) | exact y_and63 rfl rfl (by omega) | (first | (apply y_or8 6; rfl; rfl; omega; omega) | (apply y_or8 5; rfl; rfl; omega; omega) | (apply y_or8 4; rfl; rfl; omega; omega)) | exact y_neN rfl | exact y_neI rfl | exact y_eqN rfl | exact y_eqI rfl | (apply y_slice; rfl; rfl; rfl; (first | rfl | assumption | exact IntsAt.some_lt (by assumption) (by assumption)); omega; omega; omega) | exact y_beq rfl rfl | exact y_bne rfl rfl)) | refine WL_nil ?_ | refine WQ_end ?_ | refine CW_seqN rfl ?_ | refine CW_region ?_ | refine CW_condT rfl ?_ | refine CW_condF rfl ?_ | refine CW_condP rfl (by omega) ?_ | refine CW_condN rfl (by omega) ?_ | refine CW_skip ?_ | refine CW_ret ?_ | refine CW_exit ?_ | refine CW_block ?_ | refine EX_seq ?_ | refine EX_seq_ret ?_ | refine EX_blk ?_ | refine EX_blk_ret ?_ | refine EX_loop_ret ?_ | refine EX_blk_eq rfl ?_ | refine EX_blk_ne rfl ?_ | refine EX_seq_exit ?_ | refine EX_loop_exit ?_ | refine EX_mid_ret ?_ | refine EX_mid_exit ?_ | refine EX_ret1 rfl rfl rfl (fun w hw => ?_) | refine EX_ret2 rfl rfl rfl rfl (fun w hw => ?_) | refine EX_ret0 rfl rfl (fun w hw => ?_) | refine EX_end0 rfl rfl (fun w hw => ?_) | refine EX_ret3 rfl rfl rfl rfl rfl (fun w hw => ?_) | refine WL_no rfl rfl ?_ | refine WQ_no rfl rfl ?_ | refine WQ_gP rfl rfl (by omega) ?_ | refine WQ_gN rfl rfl (by omega) ?_ | refine WQ_gD rfl rfl (fun _ => ?_) (fun _ => ?_) | refine CW_quietE rfl (by kernel_rfl) (by kernel_rfl) ?_ | refine CW_mkE 1 rfl (by kernel_rfl) (by decide +kernel) ?_ | refine CW_mkE 2 rfl (by kernel_rfl) (by decide +kernel) ?_ | refine CW_mkE 3 rfl (by kernel_rfl) (by decide +kernel) ?_ | refine CW_mkE 4 rfl (by kernel_rfl) (by decide +kernel) ?_ | refine CW_mkE 5 rfl (by kernel_rfl) (by decide +kernel) ?_ | refine CW_mkE 6 rfl (by kernel_rfl) (by decide +kernel) ?_ | refine CW_mkE 7 rfl (by kernel_rfl) (by decide +kernel) ?_ | refine CW_mkE 8 rfl (by kernel_rfl) (by decide +kernel) ?_ | refine CW_mkE 9 rfl (by kernel_rfl) (by decide +kernel) ?_ | refine CW_mkE 10 rfl (by kernel_rfl) (by decide +kernel) ?_ | refine CW_mkE 11 rfl (by kernel_rfl) (by decide +kernel) ?_ | refine CW_mkE 12 rfl (by kernel_rfl) (by decide +kernel) ?_ | refine CW_mkE 13 rfl (by kernel_rfl) (by decide +kernel) ?_ | refine CW_mkE 14 rfl (by kernel_rfl) (by decide +kernel) ?_ | refine WB_no rfl rfl ?_ | refine WB_end ?_ | refine CW_quiet (by kernel_rfl) (by kernel_rfl) ?_ | refine WL_gP rfl rfl (by omega) ?_ | refine WL_gN rfl rfl (by omega) ?_ | refine WL_gD rfl rfl (fun _ => ?_) (fun _ => ?_) | refine WL_box rfl rfl rfl (fun _ => ?_) | refine CW_condD rfl (fun _ => ?_) (fun _ => ?_) | refine CW_cond rfl (fun _ => ?_) (fun _ => ?_)))
  refine WL_callW rfl rfl rfl Pick.here (fun w fp _ h _ => copyCheck_any T L b p q _ c hp w fp h) (fun _ _ => ?_)
  (repeat' (first | (apply WL_op rfl rfl; (first | exact y_notD rfl | exact y_pure rfl | exact y_add rfl rfl (by omega) | exact y_sub rfl rfl (by omega) | exact y_mul rfl rfl (by first | assumption | (unfold I64; omega)) | exact y_len_sl rfl | exact y_iface rfl | exact y_fieldAddr rfl rfl | (apply y_load; rfl; (first | exact rd_blk (by first | exact .here | exact .there .here | exact .there (.there .here) | exact .there (.there (.there .here)) | exact .there (.there (.there (.there .here))) | exact .there (.there (.there (.there (.there .here)))) | exact .there (.there (.there (.there (.there (.there .here)))))) rfl | (apply rd_ints; (apply ints_base; assumption; rfl); omega) | (apply rd_ints; (apply ints_keep; assumption; assumption); omega) | (apply rd_ints; (intro W hW; refine (hW.ints ?_ ?_).2; (first | exact .here | exact .there .here | exact .there (.there .here) | exact .there (.there (.there .here)) | exact .there (.there (.there (.there .here))) | exact .there (.there (.there (.there (.there .here)))) | exact .there (.there (.there (.there (.there (.there .here)))))); assumption); omega) | (apply rd_intsR; (first | assumption | (apply IntsR.of; assumption)); (first | exact .here | exact .there .here | exact .there (.there .here) | exact .there (.there (.there .here)) | exact .there (.there (.there (.there .here))) | exact .there (.there (.there (.there (.there .here)))) | exact .there (.there (.there (.there (.there (.there .here)))))); omega))) | (apply y_ix; rfl; rfl; assumption; omega; omega) | (apply y_ixz; rfl; rfl; assumption; omega; omega) | (apply y_loadB; rfl; exact (by first | exact .here | exact .there .here | exact .there (.there .here) | exact .there (.there (.there .here)) | exact .there (.there (.there (.there .here))) | exact .there (.there (.there (.there (.there .here)))) | exact .there (.there (.there (.there (.there (.there .here)))))); rfl) | (apply y_ixo1; rfl; rfl; (first | exact .here | exact .there .here | exact .there (.there .here) | exact .there (.there (.there .here)) | exact .there (.there (.there (.there .here))) | exact .there (.there (.there (.there (.there .here)))) | exact .there (.there (.there (.there (.there (.there .here)))))); omega) | exact y_len_str rfl | exact y_quo rfl rfl (by omega) | exact y_rem' rfl rfl (by omega) | exact y_byte rfl rfl (by omega) | exact y_cat rfl rfl (by first | omega | (simp; omega)) | exact y_seq rfl rfl | exact y_sne rfl rfl | exact y_neg rfl (by omega) | (apply y_conv_in; rfl; rfl) | (apply y_conv_in; rfl; first | exact IntWalk.i64_in _ (by omega) | exact IntWalk.i32_in _ (by omega) | exact IntWalk.u8_in _ (by omega) | exact IntWalk.u32_in _ (by omega)) | (apply y_conv_u8; rfl) | (first | exact y_shrq 6 64 rfl rfl rfl rfl | exact y_shrq 12 4096 rfl rfl rfl rfl | exact y_shrq 18 262144 rfl rfl rfl rfl | exact y_shrq 1 2 rfl rfl rfl rfl | exact y_shrq 7 128 rfl rfl rfl rfl | exact y_shrq 8 256 rfl rfl rfl rfl) | exact y_and63 rfl rfl (by omega) | (first | (apply y_or8 6; rfl; rfl; omega; omega) | (apply y_or8 5; rfl; rfl; omega; omega) | (apply y_or8 4; rfl; rfl; omega; omega)) | exact y_neN rfl | exact y_neI rfl | exact y_eqN rfl | exact y_eqI rfl | (apply y_slice; rfl; rfl; rfl; (first | rfl | assumption | exact IntsAt.some_lt (by assumption) (by assumption)); omega; omega; omega) | exact y_beq rfl rfl | exact y_bne rfl rfl)) | refine WL_nil ?_ | refine WQ_end ?_ | refine CW_seqN rfl ?_ | refine CW_region ?_ | refine CW_condT rfl ?_ | refine CW_condF rfl ?_ | refine CW_condP rfl (by omega) ?_ | refine CW_condN rfl (by omega) ?_ | refine CW_skip ?_ | refine CW_ret ?_ | refine CW_exit ?_ | refine CW_block ?_ | refine EX_seq ?_ | refine EX_seq_ret ?_ | refine EX_blk ?_ | refine EX_blk_ret ?_ | refine EX_loop_ret ?_ | refine EX_blk_eq rfl ?_ | refine EX_blk_ne rfl ?_ | refine EX_seq_exit ?_ | refine EX_loop_exit ?_ | refine EX_mid_ret ?_ | refine EX_mid_exit ?_ | refine EX_ret1 rfl rfl rfl (fun w hw => ?_) | refine EX_ret2 rfl rfl rfl rfl (fun w hw => ?_) | refine EX_ret0 rfl rfl (fun w hw => ?_) | refine EX_end0 rfl rfl (fun w hw => ?_) | refine EX_ret3 rfl rfl rfl rfl rfl (fun w hw => ?_) | refine WL_no rfl rfl ?_ | refine WQ_no rfl rfl ?_ | refine WQ_gP rfl rfl (by omega) ?_ | refine WQ_gN rfl rfl (by omega) ?_ | refine WQ_gD rfl rfl (fun _ => ?_) (fun _ => ?_) | refine CW_quietE rfl (by kernel_rfl) (by kernel_rfl) ?_ | refine CW_mkE 1 rfl (by kernel_rfl) (by decide +kernel) ?_ | refine CW_mkE 2 rfl (by kernel_rfl) (by decide +kernel) ?_ | refine CW_mkE 3 rfl (by kernel_rfl) (by decide +kernel) ?_ | refine CW_mkE 4 rfl (by kernel_rfl) (by decide +kernel) ?_ | refine CW_mkE 5 rfl (by kernel_rfl) (by decide +kernel) ?_ | refine CW_mkE 6 rfl (by kernel_rfl) (by decide +kernel) ?_ | refine CW_mkE 7 rfl (by kernel_rfl) (by decide +kernel) ?_ | refine CW_mkE 8 rfl (by kernel_rfl) (by decide +kernel) ?_ | refine CW_mkE 9 rfl (by kernel_rfl) (by decide +kernel) ?_ | refine CW_mkE 10 rfl (by kernel_rfl) (by decide +kernel) ?_ | refine CW_mkE 11 rfl (by kernel_rfl) (by decide +kernel) ?_ | refine CW_mkE 12 rfl (by kernel_rfl) (by decide +kernel) ?_ | refine CW_mkE 13 rfl (by kernel_rfl) (by decide +kernel) ?_ | refine CW_mkE 14 rfl (by kernel_rfl) (by decide +kernel) ?_ | refine WB_no rfl rfl ?_ | refine WB_end ?_ | refine CW_quiet (by kernel_rfl) (by kernel_rfl) ?_ | refine WL_gP rfl rfl (by omega) ?_ | refine WL_gN rfl rfl (by omega) ?_ | refine WL_gD rfl rfl (fun _ => ?_) (fun _ => ?_) | refine WL_box rfl rfl rfl (fun _ => ?_) | refine CW_condD rfl (fun _ => ?_) (fun _ => ?_) | refine CW_cond rfl (fun _ => ?_) (fun _ => ?_) | (apply WL_bslice; rfl; rfl; rfl; rfl; rfl; rfl; rfl; intro _) | (apply WL_append; rfl; rfl; rfl; (first | exact .here | exact .there .here | exact .there (.there .here) | exact .there (.there (.there .here)) | exact .there (.there (.there (.there .here))) | exact .there (.there (.there (.there (.there .here)))) | exact .there (.there (.there (.there (.there (.there .here)))))); (first | exact .here | exact .there .here | exact .there (.there .here) | exact .there (.there (.there .here)) | exact .there (.there (.there (.there .here))) | exact .there (.there (.there (.there (.there .here)))) | exact .there (.there (.there (.there (.there (.there .here)))))); rfl; rfl; (first | omega | (simp only [List.length_append, List.length_cons, List.length_nil, List.length_map, List.length_take, List.length_drop]; omega) | (simp; omega)); (first | omega | (simp only [List.length_append, List.length_cons, List.length_nil, List.length_map, List.length_take, List.length_drop]; omega) | (simp; omega)); rfl; rfl; intro _ _) | (apply WL_appendF; rfl; rfl; rfl; (first | exact .here | exact .there .here | exact .there (.there .here) | exact .there (.there (.there .here)) | exact .there (.there (.there (.there .here))) | exact .there (.there (.there (.there (.there .here)))) | exact .there (.there (.there (.there (.there (.there .here)))))); (first | exact .here | exact .there .here | exact .there (.there .here) | exact .there (.there (.there .here)) | exact .there (.there (.there (.there .here))) | exact .there (.there (.there (.there (.there .here)))) | exact .there (.there (.there (.there (.there (.there .here)))))); rfl; rfl; (first | omega | (simp only [List.length_append, List.length_cons, List.length_nil, List.length_map, List.length_take, List.length_drop]; omega) | (simp; omega)); (first | omega | (simp only [List.length_append, List.length_cons, List.length_nil, List.length_map, List.length_take, List.length_drop]; omega) | (simp; omega)); rfl; rfl; intro _ _) | (apply WL_appendS; rfl; rfl; (first | exact .here | exact .there .here | exact .there (.there .here) | exact .there (.there (.there .here)) | exact .there (.there (.there (.there .here))) | exact .there (.there (.there (.there (.there .here)))) | exact .there (.there (.there (.there (.there (.there .here)))))); (first | omega | (simp only [List.length_append, List.length_cons, List.length_nil, List.length_map, List.length_take, List.length_drop]; omega) | (simp; omega)); rfl; rfl; intro _ _) | (apply WL_store; rfl; rfl; rfl; (first | exact .here | exact .there .here | exact .there (.there .here) | exact .there (.there (.there .here)) | exact .there (.there (.there (.there .here))) | exact .there (.there (.there (.there (.there .here)))) | exact .there (.there (.there (.there (.there (.there .here)))))); rfl; rfl; rfl) | (apply WL_storeS; rfl; rfl; rfl; (first | exact .here | exact .there .here | exact .there (.there .here) | exact .there (.there (.there .here)) | exact .there (.there (.there (.there .here))) | exact .there (.there (.there (.there (.there .here)))) | exact .there (.there (.there (.there (.there (.there .here)))))); (first | omega | (simp only [List.length_append, List.length_cons, List.length_nil, List.length_map, List.length_take, List.length_drop]; omega) | (simp; omega)); rfl; rfl) | (apply WL_alloc; rfl; rfl; intro _) | (apply WL_makeI; rfl; rfl; (first | omega | (simp only [List.length_append, List.length_cons, List.length_nil, List.length_map, List.length_take, List.length_drop]; omega) | (simp; omega)); (first | omega | (simp only [List.length_append, List.length_cons, List.length_nil, List.length_map, List.length_take, List.length_drop]; omega) | (simp; omega)); rfl; rfl; intro _) | (apply WL_storeW; rfl; rfl; rfl; (first | exact .here | exact .there .here | exact .there (.there .here) | exact .there (.there (.there .here)) | exact .there (.there (.there (.there .here))) | exact .there (.there (.there (.there (.there .here)))) | exact .there (.there (.there (.there (.there (.there .here)))))); rfl; rfl; rfl; rfl) | (apply WL_op rfl rfl; apply y_build; rfl; rfl) | (apply EX_retC rfl rfl rfl (by first | exact .here | exact .there .here | exact .there (.there .here) | exact .there (.there (.there .here)) | exact .there (.there (.there (.there .here))) | exact .there (.there (.there (.there (.there .here)))) | exact .there (.there (.there (.there (.there (.there .here)))))) rfl; intro w hw) | (apply EX_endC rfl rfl rfl (by first | exact .here | exact .there .here | exact .there (.there .here) | exact .there (.there (.there .here)) | exact .there (.there (.there (.there .here))) | exact .there (.there (.there (.there (.there .here)))) | exact .there (.there (.there (.there (.there (.there .here)))))) rfl; intro w hw)))
  exact ⟨(), trivial, rfl, hw.ent (bldr_close (.inr rfl) (by simp) (by simp [Lib.byteCells]))⟩
theorem bldr_of_at {T : TypeId} {b cap : Nat} {p : Value} {q : Option Addr} {l : List UInt8} {w : World} (hp : p = .pointer none ∨ p = .pointer (some ⟨b, 0, none⟩)) (hA : Lib.BuilderAtF T 5 0 b p (Lib.byteCells l) w) (hq : w.heap[b]? = some (.cells #[p, .slice q l.length cap] T (0, 0))) : (bldr T b l).p w (b :: blkOf q) := by
  obtain ⟨_, v, hb, hown, hne⟩ := hA
  rw [hq] at hb
  simp only [Option.some.injEq, Obj.cells.injEq] at hb
  have hv : v = .slice q l.length cap := by have := hb.1; simpa using this.symm
  subst hv
  rw [Lib.byteCells_length] at hown
  exact ⟨p, q, cap, hp, hq, hown, fun h => hne ((ownBlock_blkOf q _ cap b).1 h), rfl⟩
theorem bldr_at {T : TypeId} {b : Nat} {l : List UInt8} {w : World} {fp : List Nat} (h : (bldr T b l).p w fp) : ∃ p q c, (p = .pointer none ∨ p = .pointer (some ⟨b, 0, none⟩)) ∧ Lib.BuilderAtF T 5 0 b p (Lib.byteCells l) w ∧ w.heap[b]? = some (.cells #[p, .slice q l.length c] T (0, 0)) ∧ fp = b :: blkOf q := by
  obtain ⟨p, q, c, hp, hb, hown, hne, rfl⟩ := h
  exact ⟨p, q, c, hp, ⟨Nat.zero_le _, _, hb, by rw [Lib.byteCells_length]; exact hown, fun e => hne ((ownBlock_blkOf q _ c b).2 e)⟩, hb, rfl⟩
theorem holds_one {h : HP} {w w' : World} {fp : List Nat} (hk : Keep w fp w') (hp : h.p w' fp) : Holds w fp [h] w' := ⟨hk, fp, ⟨fp, [], by simp, hp, rfl, by simp⟩, fun _ hi _ => hi⟩
theorem keep_freeze (w : World) (g n : Nat) (fp : List Nat) (hg : g ∈ fp) : Keep w fp (w.drew.freeze ⟨g, 0, none⟩ n) := by
  unfold World.freeze
  split
  · exact ⟨rfl, rfl, rfl, Nat.le_refl _, fun _ _ _ => rfl⟩
  · refine ⟨rfl, rfl, rfl, by simp, fun k _ hk => ?_⟩
    have : k ≠ g := fun e => hk (e ▸ hg)
    show (w.drew.heap.modify g _)[k]? = _
    rw [Array.getElem?_modify, if_neg (fun e => this e.symm)]
    rfl
theorem heap_freeze (w : World) (g n k : Nat) (h : k ≠ g) : (w.drew.freeze ⟨g, 0, none⟩ n).heap[k]? = w.heap[k]? := by
  have := (keep_freeze w g n [g] (by simp)).block
  unfold World.freeze
  split
  · rfl
  · show (w.drew.heap.modify g _)[k]? = _
    rw [Array.getElem?_modify, if_neg (fun e => h e.symm)]
    rfl
def StrPost (T : TypeId) (b : Nat) (l : List UInt8) (w : World) (fp : List Nat) (e : Ending) (w' : World) : Prop := ∃ _ : Unit, True ∧ e = .returned (.string ⟨l.toArray⟩) ∧ Holds w fp [bldr T b l] w'
set_option maxHeartbeats 1000000 in
set_option maxRecDepth 100000 in
theorem bldr_String_some (T : TypeId) (b : Nat) (l : List UInt8) (w : World) (fp : List Nat) (h : (bldr T b l).p w fp) (h0 : l ≠ []) :
    Calls Tryz.prog 104 #[.pointer (some ⟨b, 0, none⟩)] w (StrPost T b l w fp) := by
  obtain ⟨p, q, c, hp, hAt, hbq, rfl⟩ := bldr_at h
  have hAt0 := hAt
  obtain ⟨hB, v, hbk, hown, hne⟩ := hAt
  have hl0 : l.length ≠ 0 := by simpa using h0
  rw [Lib.byteCells_length] at hown
  obtain ⟨g, cap, cur, fz, rfl, hbg, hg, hfz, hnc, hcm, hcs, htake⟩ : ∃ g cap cur fz, v = .slice (some ⟨g, 0, none⟩) l.length cap ∧ 0 ≤ g ∧ w.heap[g]? = some (.cells cur 5 fz) ∧ fz.2 ≤ l.length * 1 ∧ l.length ≤ cap ∧ cap ≤ maxLen ∧ cur.size = cap * 1 ∧ cur.toList.take (l.length * 1) = Lib.byteCells l := by
    rcases hown.2 with ⟨_, hz⟩ | ⟨g, cap, cur, fz, hv, r⟩
    · exact absurd hz hl0
    · exact ⟨g, cap, cur, fz, hv, r⟩
  have c1 : w.drew.cell? ⟨b, 1, none⟩ = some (.slice (some ⟨g, 0, none⟩) l.length cap) := by
    have : w.drew.heap[b]? = some (.cells #[p, .slice (some ⟨g, 0, none⟩) l.length cap] T (0, 0)) := hbk
    rw [Lib.cell_of_heap this]; rfl
  have hSD : (Builtin.unsafeSliceData_ #[185] 268 #[.slice (some ⟨g, 0, none⟩) l.length cap]).run Tryz.prog w.drew = .ok (.pointer (some ⟨g, 0, none⟩)) w.drew :=
    Lib.run_unsafeSliceData_row _ _ _ _ _ _ (by omega)
  have hUS : (Builtin.unsafeString_ #[268, 3] 9 #[.pointer (some ⟨g, 0, none⟩), .int .i64 l.length]).run Tryz.prog w.drew = .ok (.string ⟨l.toArray⟩) (w.drew.freeze ⟨g, 0, none⟩ l.length) := by
    refine Lib.run_unsafeString_row w.drew 268 3 9 5 Tryz.underlying268 cellsByte g cur.size (by have hg' : w.drew.heap[g]? = some (.cells cur 5 fz) := hg; simp [World.shape?, hg']) l h0 (by omega) (by unfold maxLen at hcm; omega) ?_
    intro j x hx
    have := hown.cells (g := g) rfl j (.int .u8 x.toNat) (by simp [Lib.byteCells, hx])
    exact this
  have hgb : g ≠ b := fun e => hne (by rw [e]; rfl)
  have hq : q = some ⟨g, 0, none⟩ ∧ c = cap := by
    rw [hbq] at hbk
    simp only [Option.some.injEq, Obj.cells.injEq] at hbk
    have h9 := hbk.1
    simp at h9
    exact h9
  obtain ⟨rfl, rfl⟩ := hq
  have hkeep : Holds w (b :: blkOf (some ⟨g, 0, none⟩)) [bldr T b l] (w.drew.freeze ⟨g, 0, none⟩ l.length) := by
    have hA : Lib.BuilderAtF T 5 0 b p (Lib.byteCells l) w.drew := hAt0
    have hF := hA.froze (g := g) (cap := c) (by rw [Lib.byteCells_length]; exact c1)
    rw [Lib.byteCells_length] at hF
    exact holds_one (keep_freeze w g _ _ (by simp [blkOf])) (bldr_of_at hp hF ((heap_freeze w g _ b (fun e => hgb e.symm)).trans hbq))
  have Hk := Lib.hid hkeep
  clear hkeep hAt0 hbq h hgb
  go_enter Tryz.func104, Tryz.ntmps104
  go_wp2
  go_region
  all_goals (go_wp2; go_ret; exact ⟨(), trivial, rfl, Hk.out⟩)
set_option maxHeartbeats 1000000 in
set_option maxRecDepth 100000 in
theorem bldr_String_none (T : TypeId) (b : Nat) (w : World) (fp : List Nat) (h : (bldr T b []).p w fp) :
    Calls Tryz.prog 104 #[.pointer (some ⟨b, 0, none⟩)] w (StrPost T b [] w fp) := by
  have H0 := Lib.hid h
  obtain ⟨p, q, c, hp, hA, hbq, hfp⟩ := bldr_at h
  clear h hbq hfp
  have hUS := fun W q => Lib.run_unsafeString_none (P := Tryz.prog) W 268 3 9 q
  obtain ⟨hB, v, hbk, hown, hne⟩ := hA
  rcases hown.2 with ⟨rfl, _⟩ | ⟨g, cap, cur, fz, rfl, hbg, hg, _, _, _, _, _⟩
  · have c1 : w.drew.cell? ⟨b, 1, none⟩ = some (.slice none 0 0) := by
      have : w.drew.heap[b]? = some (.cells #[p, .slice none 0 0] T (0, 0)) := hbk
      rw [Lib.cell_of_heap this]; rfl
    have hSD : (Builtin.unsafeSliceData_ #[185] 268 #[.slice none 0 0]).run Tryz.prog w.drew = .ok (.pointer none) w.drew := rfl
    clear hown hne hbk
    go_enter Tryz.func104, Tryz.ntmps104
    go_wp2
    go_region
    all_goals (go_wp2; go_ret; exact ⟨(), trivial, rfl, holds_one ((Keep.refl w fp).below ((Below.refl _ _).drew)) ((bldr T b []).st _ _ _ (fun _ _ => rfl) H0.out)⟩)
  · by_cases hc0 : cap = 0
    · subst hc0
      have hlt : b < w.heap.size := by
        rcases Nat.lt_or_ge b w.heap.size with h' | h'
        · exact h'
        · simp [Array.getElem?_eq_none h'] at hbk
      have c1 : w.drew.cell? ⟨b, 1, none⟩ = some (.slice (some ⟨g, 0, none⟩) 0 0) := by
        have : w.drew.heap[b]? = some (.cells #[p, .slice (some ⟨g, 0, none⟩) 0 0] T (0, 0)) := hbk
        rw [Lib.cell_of_heap this]; rfl
      have hSD : (Builtin.unsafeSliceData_ #[185] 268 #[.slice (some ⟨g, 0, none⟩) 0 0]).run Tryz.prog w.drew = .ok (.pointer (some ⟨w.drew.heap.size, 0, none⟩)) (w.drew.alloc (.view ⟨g, 0, none⟩ 5)) :=
        Lib.run_unsafeSliceData_zero w.drew _ _ 5 Tryz.underlying268 ⟨g, 0, none⟩ 0 (5, cur.size) (by have hg' : w.drew.heap[g]? = some (.cells cur 5 fz) := hg; simp [World.shape?, hg'])
      have c2 : (w.drew.alloc (.view ⟨g, 0, none⟩ 5)).cell? ⟨b, 1, none⟩ = some (.slice (some ⟨g, 0, none⟩) 0 0) := by
        have : (w.drew.alloc (.view ⟨g, 0, none⟩ 5)).heap[b]? = _ := (Lib.alloc_old w.drew _ b hlt).trans hbk
        rw [Lib.cell_of_heap this]; rfl
      have c3 : (w.alloc (.view ⟨g, 0, none⟩ 5)).drew.cell? ⟨b, 1, none⟩ = some (.slice (some ⟨g, 0, none⟩) 0 0) := c2
      have c0 : w.cell? ⟨b, 1, none⟩ = some (.slice (some ⟨g, 0, none⟩) 0 0) := c1
      clear hown hne hbk hg
      go_enter Tryz.func104, Tryz.ntmps104
      go_wp2
      go_region
      all_goals (go_wp2; go_ret; exact ⟨(), trivial, rfl, (Holds.start (m := [bldr T b []]) ⟨fp, [], by simp, H0.out, rfl, by simp⟩).grow ((Below.refl _ _).drew.alloc (Nat.le_refl _) _)⟩)
    · have c1 : w.drew.cell? ⟨b, 1, none⟩ = some (.slice (some ⟨g, 0, none⟩) 0 cap) := by
        have : w.drew.heap[b]? = some (.cells #[p, .slice (some ⟨g, 0, none⟩) 0 cap] T (0, 0)) := hbk
        rw [Lib.cell_of_heap this]; rfl
      have hSD : (Builtin.unsafeSliceData_ #[185] 268 #[.slice (some ⟨g, 0, none⟩) 0 cap]).run Tryz.prog w.drew = .ok (.pointer (some ⟨g, 0, none⟩)) w.drew :=
        Lib.run_unsafeSliceData_row _ _ _ _ _ _ hc0
      clear hc0 hown hne hbk hg
      go_enter Tryz.func104, Tryz.ntmps104
      go_wp2
      go_region
      all_goals (go_wp2; go_ret; exact ⟨(), trivial, rfl, holds_one ((Keep.refl w fp).below ((Below.refl _ _).drew)) ((bldr T b []).st _ _ _ (fun _ _ => rfl) H0.out)⟩)
theorem bldr_String (T : TypeId) (b : Nat) (l : List UInt8) (w : World) (fp : List Nat) (h : (bldr T b l).p w fp) : Calls Tryz.prog 104 #[.pointer (some ⟨b, 0, none⟩)] w (StrPost T b l w fp) := by
  cases l with
  | nil => exact bldr_String_none T b w fp h
  | cons x r => exact bldr_String_some T b (x :: r) w fp h (by simp)
theorem bldr_String' (T : TypeId) (b : Nat) (l : List UInt8) (w : World) (fp : List Nat) (h : (bldr T b l).p w fp) : Calls Tryz.prog 104 #[.pointer (some ⟨b, 0, none⟩)] w fun e w' => ∃ _ : Unit, True ∧ e = .returned (.string ⟨l.toArray⟩) ∧ Holds w fp [bldr T b l] w' := bldr_String T b l w fp h
end Go.Proofs.YtngeooflfkpikaaGreatDoor
