/-
  tree: the parser: what its functions tell, and their calls; an atom.
-/
import Derived.Test.YtngeooflfkpikaaGreatDoorZGo
import Derived.Test.YtngeooflfkpikaaGreatDoorZTokRow
import Derived.Test.YtngeooflfkpikaaGreatDoorZParseGood
import Derived.Test.YtngeooflfkpikaaGreatDoorZPerm
namespace Go.Proofs.YtngeooflfkpikaaGreatDoor
open Go.RowKit
/-- what a part of the parser tells -/
def PGot (b : Nat) (p : Option Addr) (c : Nat) (L : List Tok) (d : Nat) {α : Type} (res : Except Nat (α × List Tok)) (rep : Rd → α → Value → Prop) (G : Rd) (w : World) (fp : List Nat) (k : Nat) (e : Ending) (w' : World) : Prop :=
  (∃ z : Rd × α × Nat × Value, (res = .ok (z.2.1, L.drop z.2.2.1) ∧ k < z.2.2.1 ∧ z.2.2.1 ≤ L.length ∧ rep z.1 z.2.1 z.2.2.2) ∧ e = .returned z.2.2.2 ∧ Rd.grow w G z.1 ∧ Holds w fp (ro w fp z.1 :: [prs b p L.length c z.2.2.1 d]) w') ∨
  (∃ y : Nat × Nat, res = .error y.1 ∧ e = .panicked (wrongP (L.length - y.1 : Nat)) ∧ Rd.grow w G G ∧ Holds w fp (ro w fp G :: [prs b p L.length c y.2 d]) w')
def ExRep (G : Rd) (e : Ex) (v : Value) : Prop := e.rep G v
/-- a function, as it is handed on -/
def FnRep (G : Rd) (f : FunE) (v : Value) : Prop := ∃ (p : Option Addr) (c : Nat) (vs : List Value), v = .agg #[.int .i64 f.aop, .int .i64 f.af, .int .i64 f.ag, .int .i64 (f.n : Int), .slice p vs.length c] ∧ Row encV 1 G p c vs ∧ (Exs.of f.body).rep G vs
/-- the contract of an expression at a place -/
def ExAt (p : Option Addr) (c : Nat) (L : List Tok) (k : Nat) : Prop := ∀ (b d : Nat) (G : Rd) (w : World) (fp : List Nat), k ≤ L.length → d ≤ k → Row tokE 5 G p c L → Own [prs b p L.length c k d] fp w → Rd.sub G fp w →
  Calls Tryz.prog 80 #[.pointer (some ⟨b, 0, none⟩)] w (PGot b p c L d (exP d (L.drop k)) ExRep G w fp k)
section calls
variable {P : Program} {K : Cx} {ρ : Env} {m m' r : List HP} {dst : Option Nat} {ty t t' : TypeId} {pos : String} {aft : Array Edge} {g : Option (Nat × Bool)} {v : Value} {x y z : Operand} {ops : Array Oper} {Q : Exit → Act → World → Prop} {rest : List Oper} {dd : Nat} {G : Rd} {m0 : List HP} {L : Act → Cl → Prop} {listed : Array Bool} {kk : Nat} {krest : List Nat} {ρp : Env}
variable {b k d c : Nat} {p : Option Addr} {T : List Tok} {α : Type} {res : Except Nat (α × List Tok)} {rep : Rd → α → Value → Prop}
/-- a call of a part of the parser -/
theorem WL_callPar {f : FuncId} [S : FnT P f] {xs : List Operand} {ats : Array TypeId} {vs : List Value} (b : Nat) (p : Option Addr) (c : Nat) (T : List Tok) (k d : Nat) (res : Except Nat (α × List Tok)) (rep : Rd → α → Value → Prop)
    (hc : ∀ w fp, Holds K.w0 K.F (ro K.w0 K.F G :: ([prs b p T.length c k d] ++ r)) w → Own [prs b p T.length c k d] fp w → Rd.sub G fp w → (∀ i ∈ fp, i < K.w0.heap.size → i ∈ K.F) → Calls P f vs.toArray w (PGot b p c T d res rep G w fp k))
    (hk : ∀ (z : Rd × α × Nat × Value), res = .ok (z.2.1, T.drop z.2.2.1) → k < z.2.2.1 → z.2.2.1 ≤ T.length → rep z.1 z.2.1 z.2.2.2 → Rd.grow K.w0 G z.1 → WL P K ops Q rest ((dd, z.2.2.2) :: ρ) (ro K.w0 K.F z.1 :: (prs b p T.length c z.2.2.1 d :: r)))
    (kp : ∀ (y k' : Nat), res = .error y → EX K Q (.panic (wrongP (T.length - y : Nat))) ρ (ro K.w0 K.F G :: (prs b p T.length c k' d :: r)))
    (e : Ent m (ro K.w0 K.F G :: ([prs b p T.length c k d] ++ r)) := by exact zent) (hx : opvs ρ xs = some vs := by rfl) (hg : guardB ops g ρ = some true := by rfl)
    (hn : (guardN K.N ops g && Nat.blt dd K.N) = true := by rfl) : WL P K ops Q (⟨some dd, .call ⟨.value (.func f), xs.toArray, ats⟩, ty, pos, aft, g⟩ :: rest) ρ m :=
  WL_callGP (m1 := [prs b p T.length c k d]) (X := Rd × α × Nat × Value) (Y := Nat × Nat) (V := fun z => z.2.2.2) (Gx := fun z => z.1) (M := fun z => [prs b p T.length c z.2.2.1 d]) (I := fun z => res = .ok (z.2.1, T.drop z.2.2.1) ∧ k < z.2.2.1 ∧ z.2.2.1 ≤ T.length ∧ rep z.1 z.2.1 z.2.2.2) (C := fun y => wrongP (T.length - y.1 : Nat)) (Gy := fun _ => G) (MP := fun y => [prs b p T.length c y.2 d]) (J := fun y => res = .error y.1)
    e hx hg hn hc (fun z h hgr => hk z h.1 h.2.1 h.2.2.1 h.2.2.2 hgr) (fun y h _ => kp y.1 y.2 h)
/-- .. where the orders are told -/
theorem WP_callPar {f : FuncId} [S : FnT P f] {xs : List Operand} {ats : Array TypeId} {vs : List Value} (b : Nat) (p : Option Addr) (c : Nat) (T : List Tok) (k d : Nat) (res : Except Nat (α × List Tok)) (rep : Rd → α → Value → Prop)
    (hkk : ops[kk]? = some ⟨some dd, .call ⟨.value (.func f), xs.toArray, ats⟩, ty, pos, aft, g⟩)
    (hc : ∀ w fp, Holds K.w0 K.F (ro K.w0 K.F G :: ([prs b p T.length c k d] ++ r)) w → Own [prs b p T.length c k d] fp w → Rd.sub G fp w → (∀ i ∈ fp, i < K.w0.heap.size → i ∈ K.F) → Calls P f vs.toArray w (PGot b p c T d res rep G w fp k))
    (hr : ∀ (G' : Rd) (k' : Nat), ∃ pm, Ent (ro K.w0 K.F G' :: (prs b p T.length c k' d :: r)) (pm ++ m0))
    (hk : ∀ (z : Rd × α × Nat × Value), res = .ok (z.2.1, T.drop z.2.2.1) → k < z.2.2.1 → z.2.2.1 ≤ T.length → rep z.1 z.2.1 z.2.2.2 → Rd.grow K.w0 G z.1 → WP P K (PanE K ρp Q) ops L m0 krest (listed.setIfInBounds kk true) ((dd, z.2.2.2) :: ρ) (ro K.w0 K.F z.1 :: (prs b p T.length c z.2.2.1 d :: r)))
    (kp : ∀ (y k' : Nat), res = .error y → EX K Q (.panic (wrongP (T.length - y : Nat))) ρp (ro K.w0 K.F G :: (prs b p T.length c k' d :: r)))
    (hso : soleB .any ops listed kk = true := by decide +kernel) (e : Ent m (ro K.w0 K.F G :: ([prs b p T.length c k d] ++ r)) := by exact zent) (hx : opvs ρ xs = some vs := by rfl) (hg : guardB ops g ρ = some true := by rfl)
    (hn : (guardN K.N ops g && Nat.blt dd K.N) = true := by rfl) : WP P K (PanE K ρp Q) ops L m0 (kk :: krest) listed ρ m :=
  WP_callG (m1 := [prs b p T.length c k d]) (X := Rd × α × Nat × Value) (Y := Nat × Nat) (V := fun z => z.2.2.2) (Gx := fun z => z.1) (M := fun z => [prs b p T.length c z.2.2.1 d]) (I := fun z => res = .ok (z.2.1, T.drop z.2.2.1) ∧ k < z.2.2.1 ∧ z.2.2.1 ≤ T.length ∧ rep z.1 z.2.1 z.2.2.2) (C := fun y => wrongP (T.length - y.1 : Nat)) (Gy := fun _ => G) (MP := fun y => [prs b p T.length c y.2 d]) (J := fun y => res = .error y.1)
    hkk e hso hx hg hn hc (fun z _ => hr z.1 z.2.2.1) (fun z h hgr => hk z h.1 h.2.1 h.2.2.1 h.2.2.2 hgr) (fun y h _ => kp y.1 y.2 h)
end calls
theorem needT_no {q : Int} {L : List Tok} {k : Nat} (hk : k ≤ L.length) (h : kindT (L.drop k) ≠ q) : needT q (L.drop k) = .error (L.length - k) := by
  by_cases hlt : k < L.length
  · obtain ⟨t, ht⟩ := get_lt hlt
    rw [kind_at ht] at h
    have hl : (L.drop (k + 1)).length + 1 = L.length - k := by rw [List.length_drop]; omega
    rw [tdrop_cons ht]
    show (if t.kind = q then _ else _) = _
    rw [if_neg h, hl]
  · rw [List.drop_eq_nil_of_le (by omega), show L.length - k = 0 by omega]; rfl
theorem needT_yes {q : Int} {L : List Tok} {k : Nat} {t : Tok} (ht : L[k]? = some t) (h : t.kind = q) : needT q (L.drop k) = .ok (t, L.drop (k + 1)) := by
  rw [tdrop_cons ht]
  show (if t.kind = q then _ else _) = _
  rw [if_pos h]
theorem sub_sub' {n k : Nat} (h : k ≤ n) : n - (n - k) = k := by omega
/-- how many numbers stand here -/
def numsN (l : List Tok) : Nat := (l.takeWhile isNumK).length
theorem nums_take (l : List Tok) : l.takeWhile isNumK = l.take (numsN l) := List.prefix_iff_eq_take.1 (List.takeWhile_prefix isNumK)
theorem nums_drop (l : List Tok) : l.dropWhile isNumK = l.drop (numsN l) := by
  have h : l.takeWhile isNumK ++ l.dropWhile isNumK = l := List.takeWhile_append_dropWhile
  have := congrArg (List.drop (numsN l)) h
  unfold numsN at this ⊢
  rw [List.drop_left] at this
  exact this
theorem nums_le (l : List Tok) : numsN l ≤ l.length := (List.takeWhile_prefix isNumK).length_le
theorem nums_at {l : List Tok} {i : Nat} (h : i < numsN l) : ∃ t, l[i]? = some t ∧ t.kind = 1 := by
  have h1 : i < (l.takeWhile isNumK).length := h
  have h2 : (l.takeWhile isNumK)[i]? = some (l.takeWhile isNumK)[i] := List.getElem?_eq_getElem h1
  refine ⟨(l.takeWhile isNumK)[i], ?_, ?_⟩
  · obtain ⟨s, hs⟩ := List.takeWhile_prefix (l := l) isNumK
    have : l[i]? = (l.takeWhile isNumK ++ s)[i]? := by rw [hs]
    rw [this, List.getElem?_append_left h1, h2]
  · have := mem_tw (List.getElem_mem h1)
    simpa [isNumK] using this
theorem nums_end (l : List Tok) : kindT (l.drop (numsN l)) ≠ 1 := by
  rw [← nums_drop]
  intro h
  have := List.head?_dropWhile_not isNumK l
  cases hd : l.dropWhile isNumK with
  | nil => rw [hd] at h; simp [kindT] at h
  | cons t r =>
    rw [hd] at h this
    simp [isNumK] at this
    exact this h
theorem flat_encI (xs : List Int) : xs.flatMap encI = xs.map (Value.int .i64) := by
  induction xs with
  | nil => rfl
  | cons x xs ih => rw [List.flatMap_cons, ih]; rfl
set_option maxHeartbeats 4000000 in
set_option maxRecDepth 100000 in
theorem par_atom (p : Option Addr) (c : Nat) (L : List Tok) (hL : L.length ≤ 200) (k : Nat) (hE : ∀ k', k < k' → ExAt p c L k') (b d : Nat) (G : Rd) (w : World) (fp : List Nat) (hk : k ≤ L.length) (hdk : d ≤ k) (hR : Row tokE 5 G p c L) (hO : Own [prs b p L.length c k d] fp w) (hS : Rd.sub G fp w) :
    Calls Tryz.prog 238 #[.pointer (some ⟨b, 0, none⟩)] w (PGot b p c L d (atP d (L.drop k)) ExRep G w fp k) := by
  refine enterR (args := [_]) hS hO Tryz.func238 rfl Tryz.ntmps238 (by simp) ?_
  have hfp := own_prs hO
  clear hO hS
  obtain ⟨Z, hZ⟩ : ∃ Z, atP d (L.drop k) = Z := ⟨_, rfl⟩
  have heq := hZ
  rw [atP_eq] at heq
  rw [hZ]
  obtain ⟨q, hq⟩ : ∃ q, kindT (L.drop k) = q := ⟨_, rfl⟩
  have hkind := fun W fp (hO : Own [prs b p L.length c k d] fp W) (hS : Rd.sub G fp W) => par_kind b p c k d L G W fp hR hk hO hS
  rw [hq] at heq hkind
  ((repeat' (first|refine zza ?_|refine zc9 ?_|refine zzb fun w hw => ?_|refine zzh fun _ => ?_|refine zzi fun _ _ => ?_|refine zzj (fun _ => ?_) fun _ => ?_)); (repeat' (refine CW_seq ?_; (repeat' (first|refine zza ?_|refine zc9 ?_|refine zzb fun w hw => ?_|refine zzh fun _ => ?_|refine zzi fun _ _ => ?_|refine zzj (fun _ => ?_) fun _ => ?_)))))
  (apply WL_callU1 (h := prs b p L.length c k d); (first | exact .here | exact .there .here | exact .there (.there .here) | exact .there (.there (.there .here)) | exact .there (.there (.there (.there .here))) | exact .there (.there (.there (.there (.there .here)))) | exact .there (.there (.there (.there (.there (.there .here)))))); (first | exact .here | exact .there .here | exact .there (.there .here) | exact .there (.there (.there .here)) | exact .there (.there (.there (.there .here))) | exact .there (.there (.there (.there (.there .here)))) | exact .there (.there (.there (.there (.there (.there .here)))))); rfl; rfl; rfl; (intro W fp hO hS; exact hkind W fp hO hS))
  clear hkind
  by_cases h1 : q = 1
  · subst h1
    rw [if_pos rfl, nums_take, nums_drop, List.drop_drop] at heq
    have hpos : 0 < numsN (L.drop k) := by
      refine Nat.pos_of_ne_zero fun h0 => nums_end (L.drop k) ?_
      rw [h0, List.drop_zero, hq]
    have hnL := nums_le (L.drop k)
    have hnk := fun i (h : i < numsN (L.drop k)) => nums_at h
    have hend := nums_end (L.drop k)
    rw [List.length_drop] at hnL
    rw [List.drop_drop] at hend
    generalize numsN (L.drop k) = n at heq hpos hnL hnk hend
    have hn200 : n ≤ 200 := by omega
    ((repeat' (first|refine zza ?_|refine zc9 ?_|refine zzb fun w hw => ?_|refine zzh fun _ => ?_|refine zzi fun _ _ => ?_|refine zzj (fun _ => ?_) fun _ => ?_)); (repeat' (refine CW_seq ?_; (repeat' (first|refine zza ?_|refine zc9 ?_|refine zzb fun w hw => ?_|refine zzh fun _ => ?_|refine zzi fun _ _ => ?_|refine zzj (fun _ => ?_) fun _ => ?_)))))
    refine CW_ent (m' := [sl 3 1 none 0 0 [], prs b p L.length c k d, ro w fp G]) (Ent.nilown zent) ?_
    refine CW_loopK [(0,_)] zcov (fun x : Nat × Option Addr × Nat => [(4, .slice x.2.1 x.1 x.2.2)]) (fun x => [sl 3 1 x.2.1 x.1 x.2.2 (((L.drop k).take x.1).map fun t => Value.int .i64 t.num), prs b p L.length c (k + x.1) d, ro w fp G]) (fun x => x.1 ≤ n) (fun x => n - x.1) (0, none, 0) (Nat.zero_le _) zcov zent ?_
    rintro ⟨i, sp, sc⟩ hi
    dsimp only at hi ⊢
    have hkind := fun W fp (hO : Own [prs b p L.length c (k + i) d] fp W) (hS : Rd.sub G fp W) => par_kind b p c (k + i) d L G W fp hR (by omega) hO hS
    by_cases hlt : i < n
    · obtain ⟨t, ht, htk⟩ := hnk i hlt
      have hget : (L.drop k)[i]? = some t := ht
      rw [List.getElem?_drop] at ht
      have htake : ((L.drop k).take i).map (fun t => Value.int .i64 t.num) ++ [.int .i64 t.num] = ((L.drop k).take (i + 1)).map (fun t => Value.int .i64 t.num) := by
        rw [List.take_add_one, hget]; simp
      rw [kind_at ht, htk] at hkind
      have hneed := fun W fp (hO : Own [prs b p L.length c (k + i) d] fp W) (hS : Rd.sub G fp W) => par_need b p c (k + i) d L 1 t G W fp hR ht htk hO hS
      clear hnk hend heq hpos
      obtain ⟨kind, fn, num, text, at_⟩ := t
      dsimp only [tokE] at hneed htake
      ((repeat' (first|refine zza ?_|refine zc9 ?_|refine zzb fun w hw => ?_|refine zzh fun _ => ?_|refine zzi fun _ _ => ?_|refine zzj (fun _ => ?_) fun _ => ?_)); (repeat' (refine CW_seq ?_; (repeat' (first|refine zza ?_|refine zc9 ?_|refine zzb fun w hw => ?_|refine zzh fun _ => ?_|refine zzi fun _ _ => ?_|refine zzj (fun _ => ?_) fun _ => ?_)))))
      (apply WL_callU1 (h := prs b p L.length c (k + i) d); (first | exact .here | exact .there .here | exact .there (.there .here) | exact .there (.there (.there .here)) | exact .there (.there (.there (.there .here))) | exact .there (.there (.there (.there (.there .here)))) | exact .there (.there (.there (.there (.there (.there .here)))))); (first | exact .here | exact .there .here | exact .there (.there .here) | exact .there (.there (.there .here)) | exact .there (.there (.there (.there .here))) | exact .there (.there (.there (.there (.there .here)))) | exact .there (.there (.there (.there (.there (.there .here)))))); rfl; rfl; rfl; (intro W fp hO hS; exact hkind W fp hO hS))
      clear hkind
      ((repeat' (first|refine zza ?_|refine zc9 ?_|refine zzb fun w hw => ?_|refine zzh fun _ => ?_|refine zzi fun _ _ => ?_|refine zzj (fun _ => ?_) fun _ => ?_)); (repeat' (refine CW_seq ?_; (repeat' (first|refine zza ?_|refine zc9 ?_|refine zzb fun w hw => ?_|refine zzh fun _ => ?_|refine zzi fun _ _ => ?_|refine zzj (fun _ => ?_) fun _ => ?_)))))
      (apply WL_callU1 (h := prs b p L.length c (k + i) d); (first | exact .here | exact .there .here | exact .there (.there .here) | exact .there (.there (.there .here)) | exact .there (.there (.there (.there .here))) | exact .there (.there (.there (.there (.there .here)))) | exact .there (.there (.there (.there (.there (.there .here)))))); (first | exact .here | exact .there .here | exact .there (.there .here) | exact .there (.there (.there .here)) | exact .there (.there (.there (.there .here))) | exact .there (.there (.there (.there (.there .here)))) | exact .there (.there (.there (.there (.there (.there .here)))))); rfl; rfl; rfl; (intro W fp hO hS; exact hneed W fp hO hS))
      clear hneed
      ((repeat' (first|refine zza ?_|refine zc9 ?_|refine zzb fun w hw => ?_|refine zzh fun _ => ?_|refine zzi fun _ _ => ?_|refine zzj (fun _ => ?_) fun _ => ?_)); (repeat' (refine CW_seq ?_; (repeat' (first|refine zza ?_|refine zc9 ?_|refine zzb fun w hw => ?_|refine zzh fun _ => ?_|refine zzi fun _ _ => ?_|refine zzj (fun _ => ?_) fun _ => ?_)))))
      rename_i q c2
      refine EX_loop' (i + 1, q, c2) ⟨zcov, by dsimp only; rw [← htake]; exact zent, by dsimp only; omega, by dsimp only; omega⟩
    · have hin : i = n := by omega
      subst hin
      have hne := hend
      clear hnk hend
      ((repeat' (first|refine zza ?_|refine zc9 ?_|refine zzb fun w hw => ?_|refine zzh fun _ => ?_|refine zzi fun _ _ => ?_|refine zzj (fun _ => ?_) fun _ => ?_)); (repeat' (refine CW_seq ?_; (repeat' (first|refine zza ?_|refine zc9 ?_|refine zzb fun w hw => ?_|refine zzh fun _ => ?_|refine zzi fun _ _ => ?_|refine zzj (fun _ => ?_) fun _ => ?_)))))
      (apply WL_callU1 (h := prs b p L.length c (k + i) d); (first | exact .here | exact .there .here | exact .there (.there .here) | exact .there (.there (.there .here)) | exact .there (.there (.there (.there .here))) | exact .there (.there (.there (.there (.there .here)))) | exact .there (.there (.there (.there (.there (.there .here)))))); (first | exact .here | exact .there .here | exact .there (.there .here) | exact .there (.there (.there .here)) | exact .there (.there (.there (.there .here))) | exact .there (.there (.there (.there (.there .here)))) | exact .there (.there (.there (.there (.there (.there .here)))))); rfl; rfl; rfl; (intro W fp hO hS; exact hkind W fp hO hS))
      clear hkind
      ((repeat' (first|refine zza ?_|refine zc9 ?_|refine zzb fun w hw => ?_|refine zzh fun _ => ?_|refine zzi fun _ _ => ?_|refine zzj (fun _ => ?_) fun _ => ?_)); (repeat' (refine CW_seq ?_; (repeat' (first|refine zza ?_|refine zc9 ?_|refine zzb fun w hw => ?_|refine zzh fun _ => ?_|refine zzi fun _ _ => ?_|refine zzj (fun _ => ?_) fun _ => ?_)))))
      obtain ⟨G', g', r', h'⟩ := Holds.toRo (α := Int) (enc := encI) (sz := 1) (fun _ => rfl) (by decide) (xs := ((L.drop k).take i).map (·.num)) (e := 3) (n := i) (p := sp) (c := sc) (r := [prs b p L.length c (k + i) d]) (hw.ent (by rw [flat_encI, List.map_map]; exact zent)) (fun f hf i hi => by rw [own_prs hf, ← hfp]; exact hi)
      exact .inl ⟨(G', .leaf ⟨1, 0, 0, 0, 0, ((L.drop k).take i).map (·.num), []⟩, k + i, .iface 161 (.agg #[.slice sp i sc])), ⟨heq.symm, by dsimp only; omega, by dsimp only; omega, .inl ⟨rfl, sp, sc, by simp; omega, r'⟩⟩, rfl, g', h'⟩
  by_cases h2 : q = 2
  · subst h2
    rw [if_neg (by decide), if_pos rfl] at heq
    obtain ⟨t, ht⟩ := get_lt (lt_of_kind hq (by decide))
    have htq : t.kind = 2 := by rw [← kind_at ht, hq]
    rw [needT_yes ht htq] at heq
    have hlt := (List.getElem?_eq_some_iff.1 ht).1
    have hneed := fun W fp (hO : Own [prs b p L.length c k d] fp W) (hS : Rd.sub G fp W) => par_need b p c k d L 2 t G W fp hR ht htq hO hS
    obtain ⟨kind, fn, num, text, at_⟩ := t
    dsimp only [tokE] at hneed
    ((repeat' (first|refine zza ?_|refine zc9 ?_|refine zzb fun w hw => ?_|refine zzh fun _ => ?_|refine zzi fun _ _ => ?_|refine zzj (fun _ => ?_) fun _ => ?_)); (repeat' (refine CW_seq ?_; (repeat' (first|refine zza ?_|refine zc9 ?_|refine zzb fun w hw => ?_|refine zzh fun _ => ?_|refine zzi fun _ _ => ?_|refine zzj (fun _ => ?_) fun _ => ?_)))))
    (apply WL_callU1 (h := prs b p L.length c k d); (first | exact .here | exact .there .here | exact .there (.there .here) | exact .there (.there (.there .here)) | exact .there (.there (.there (.there .here))) | exact .there (.there (.there (.there (.there .here)))) | exact .there (.there (.there (.there (.there (.there .here)))))); (first | exact .here | exact .there .here | exact .there (.there .here) | exact .there (.there (.there .here)) | exact .there (.there (.there (.there .here))) | exact .there (.there (.there (.there (.there .here)))) | exact .there (.there (.there (.there (.there (.there .here)))))); rfl; rfl; rfl; (intro W fp hO hS; exact hneed W fp hO hS))
    clear hneed
    ((repeat' (first|refine zza ?_|refine zc9 ?_|refine zzb fun w hw => ?_|refine zzh fun _ => ?_|refine zzi fun _ _ => ?_|refine zzj (fun _ => ?_) fun _ => ?_)); (repeat' (refine CW_seq ?_; (repeat' (first|refine zza ?_|refine zc9 ?_|refine zzb fun w hw => ?_|refine zzh fun _ => ?_|refine zzi fun _ _ => ?_|refine zzj (fun _ => ?_) fun _ => ?_)))))
    exact .inl ⟨(G, .leaf ⟨2, 0, 0, 0, 0, [], text⟩, k + 1, .iface 162 (.agg #[.string ⟨text.toArray⟩])), ⟨heq.symm, by dsimp only; omega, by dsimp only; omega, .inr (.inl ⟨rfl, rfl⟩)⟩, rfl, Rd.grow_refl _ _, hw.ent zent⟩
  by_cases h3 : q = 3
  · subst h3
    rw [if_neg (by decide), if_neg (by decide), if_pos rfl] at heq
    obtain ⟨t, ht⟩ := get_lt (lt_of_kind hq (by decide))
    have htq : t.kind = 3 := by rw [← kind_at ht, hq]
    rw [needT_yes ht htq] at heq
    have hlt := (List.getElem?_eq_some_iff.1 ht).1
    have hneed := fun W fp (hO : Own [prs b p L.length c k d] fp W) (hS : Rd.sub G fp W) => par_need b p c k d L 3 t G W fp hR ht htq hO hS
    obtain ⟨kind, fn, num, text, at_⟩ := t
    dsimp only [tokE] at hneed
    ((repeat' (first|refine zza ?_|refine zc9 ?_|refine zzb fun w hw => ?_|refine zzh fun _ => ?_|refine zzi fun _ _ => ?_|refine zzj (fun _ => ?_) fun _ => ?_)); (repeat' (refine CW_seq ?_; (repeat' (first|refine zza ?_|refine zc9 ?_|refine zzb fun w hw => ?_|refine zzh fun _ => ?_|refine zzi fun _ _ => ?_|refine zzj (fun _ => ?_) fun _ => ?_)))))
    (apply WL_callU1 (h := prs b p L.length c k d); (first | exact .here | exact .there .here | exact .there (.there .here) | exact .there (.there (.there .here)) | exact .there (.there (.there (.there .here))) | exact .there (.there (.there (.there (.there .here)))) | exact .there (.there (.there (.there (.there (.there .here)))))); (first | exact .here | exact .there .here | exact .there (.there .here) | exact .there (.there (.there .here)) | exact .there (.there (.there (.there .here))) | exact .there (.there (.there (.there (.there .here)))) | exact .there (.there (.there (.there (.there (.there .here)))))); rfl; rfl; rfl; (intro W fp hO hS; exact hneed W fp hO hS))
    clear hneed
    ((repeat' (first|refine zza ?_|refine zc9 ?_|refine zzb fun w hw => ?_|refine zzh fun _ => ?_|refine zzi fun _ _ => ?_|refine zzj (fun _ => ?_) fun _ => ?_)); (repeat' (refine CW_seq ?_; (repeat' (first|refine zza ?_|refine zc9 ?_|refine zzb fun w hw => ?_|refine zzh fun _ => ?_|refine zzi fun _ _ => ?_|refine zzj (fun _ => ?_) fun _ => ?_)))))
    exact .inl ⟨(G, .leaf ⟨3, 0, 0, 0, 0, [], text⟩, k + 1, .iface 146 (.agg #[.string ⟨text.toArray⟩])), ⟨heq.symm, by dsimp only; omega, by dsimp only; omega, .inr (.inr (.inl ⟨rfl, rfl⟩))⟩, rfl, Rd.grow_refl _ _, hw.ent zent⟩
  by_cases h18 : q = 18 ∨ q = 19
  · rw [if_neg h1, if_neg h2, if_neg h3, if_pos h18] at heq
    have hlt := lt_of_kind hq (by omega)
    have htl : (L.drop k).tail = L.drop (k + 1) := by rw [List.tail_drop]
    have hlen : (L.drop k).length = L.length - k := List.length_drop
    rw [htl, hlen] at heq
    by_cases hd : d = 0
    · rw [if_pos hd] at heq
      subst hd
      rcases h18 with rfl | rfl
      · ((repeat' (first|refine zza ?_|refine zc9 ?_|refine zzb fun w hw => ?_|refine zzh fun _ => ?_|refine zzi fun _ _ => ?_|refine zzj (fun _ => ?_) fun _ => ?_)); (repeat' (refine CW_seq ?_; (repeat' (first|refine zza ?_|refine zc9 ?_|refine zzb fun w hw => ?_|refine zzh fun _ => ?_|refine zzi fun _ _ => ?_|refine zzj (fun _ => ?_) fun _ => ?_)))))
        refine WL_callPm (m1 := [prs b p L.length c k 0]) (M := [prs b p L.length c k 0]) zent rfl rfl rfl (fun W fp hO hS => par_fail b p L.length c k 0 G W fp hO hS) ?_
        ((repeat' (first|refine zza ?_|refine zc9 ?_|refine zzb fun w hw => ?_|refine zzh fun _ => ?_|refine zzi fun _ _ => ?_|refine zzj (fun _ => ?_) fun _ => ?_)); (repeat' (refine CW_seq ?_; (repeat' (first|refine zza ?_|refine zc9 ?_|refine zzb fun w hw => ?_|refine zzh fun _ => ?_|refine zzi fun _ _ => ?_|refine zzj (fun _ => ?_) fun _ => ?_)))))
        exact .inr ⟨(L.length - k, k), heq.symm, by rw [sub_sub' hk], Rd.grow_refl _ _, hw.ent zent⟩
      · ((repeat' (first|refine zza ?_|refine zc9 ?_|refine zzb fun w hw => ?_|refine zzh fun _ => ?_|refine zzi fun _ _ => ?_|refine zzj (fun _ => ?_) fun _ => ?_)); (repeat' (refine CW_seq ?_; (repeat' (first|refine zza ?_|refine zc9 ?_|refine zzb fun w hw => ?_|refine zzh fun _ => ?_|refine zzi fun _ _ => ?_|refine zzj (fun _ => ?_) fun _ => ?_)))))
        refine WL_callPm (m1 := [prs b p L.length c k 0]) (M := [prs b p L.length c k 0]) zent rfl rfl rfl (fun W fp hO hS => par_fail b p L.length c k 0 G W fp hO hS) ?_
        ((repeat' (first|refine zza ?_|refine zc9 ?_|refine zzb fun w hw => ?_|refine zzh fun _ => ?_|refine zzi fun _ _ => ?_|refine zzj (fun _ => ?_) fun _ => ?_)); (repeat' (refine CW_seq ?_; (repeat' (first|refine zza ?_|refine zc9 ?_|refine zzb fun w hw => ?_|refine zzh fun _ => ?_|refine zzi fun _ _ => ?_|refine zzj (fun _ => ?_) fun _ => ?_)))))
        exact .inr ⟨(L.length - k, k), heq.symm, by rw [sub_sub' hk], Rd.grow_refl _ _, hw.ent zent⟩
    · rw [if_neg hd] at heq
      have hd0 : 0 < d := by omega
      have e1 : ((k + 1 : Nat) : Int) = (k : Int) + 1 := by omega
      rcases h18 with rfl | rfl
      · ((repeat' (first|refine zza ?_|refine zc9 ?_|refine zzb fun w hw => ?_|refine zzh fun _ => ?_|refine zzi fun _ _ => ?_|refine zzj (fun _ => ?_) fun _ => ?_)); (repeat' (refine CW_seq ?_; (repeat' (first|refine zza ?_|refine zc9 ?_|refine zzb fun w hw => ?_|refine zzh fun _ => ?_|refine zzi fun _ _ => ?_|refine zzj (fun _ => ?_) fun _ => ?_)))))
        exact .inl ⟨(G, .leaf ⟨4, 0, 0, 0, 0, [], []⟩, k + 1, .iface 164 (.agg #[.int .i64 4])), ⟨heq.symm, by dsimp only; omega, by dsimp only; omega, .inr (.inr (.inr ⟨.inl rfl, rfl⟩))⟩, rfl, Rd.grow_refl _ _, by unfold prs; rw [e1]; exact hw.ent zent⟩
      · ((repeat' (first|refine zza ?_|refine zc9 ?_|refine zzb fun w hw => ?_|refine zzh fun _ => ?_|refine zzi fun _ _ => ?_|refine zzj (fun _ => ?_) fun _ => ?_)); (repeat' (refine CW_seq ?_; (repeat' (first|refine zza ?_|refine zc9 ?_|refine zzb fun w hw => ?_|refine zzh fun _ => ?_|refine zzi fun _ _ => ?_|refine zzj (fun _ => ?_) fun _ => ?_)))))
        exact .inl ⟨(G, .leaf ⟨5, 0, 0, 0, 0, [], []⟩, k + 1, .iface 164 (.agg #[.int .i64 5])), ⟨heq.symm, by dsimp only; omega, by dsimp only; omega, .inr (.inr (.inr ⟨.inr rfl, rfl⟩))⟩, rfl, Rd.grow_refl _ _, by unfold prs; rw [e1]; exact hw.ent zent⟩
  rw [if_neg h1, if_neg h2, if_neg h3, if_neg h18] at heq
  have h18' : ¬ q = 18 := fun h => h18 (.inl h)
  have h19' : ¬ q = 19 := fun h => h18 (.inr h)
  clear h18
  by_cases h5 : q = 5
  case neg =>
    rw [needT_no hk (by rw [hq]; exact h5)] at heq
    ((repeat' (first|refine zza ?_|refine zc9 ?_|refine zzb fun w hw => ?_|refine zzh fun _ => ?_|refine zzi fun _ _ => ?_|refine zzj (fun _ => ?_) fun _ => ?_)); (repeat' (refine CW_seq ?_; (repeat' (first|refine zza ?_|refine zc9 ?_|refine zzb fun w hw => ?_|refine zzh fun _ => ?_|refine zzi fun _ _ => ?_|refine zzj (fun _ => ?_) fun _ => ?_)))))
    refine WL_callPm (m1 := [prs b p L.length c k d]) (M := [prs b p L.length c k d]) zent rfl rfl rfl (fun W fp hO hS => par_needN b p c k d L 5 G W fp hR hk (by rw [hq]; exact h5) hO hS) ?_
    ((repeat' (first|refine zza ?_|refine zc9 ?_|refine zzb fun w hw => ?_|refine zzh fun _ => ?_|refine zzi fun _ _ => ?_|refine zzj (fun _ => ?_) fun _ => ?_)); (repeat' (refine CW_seq ?_; (repeat' (first|refine zza ?_|refine zc9 ?_|refine zzb fun w hw => ?_|refine zzh fun _ => ?_|refine zzi fun _ _ => ?_|refine zzj (fun _ => ?_) fun _ => ?_)))))
    exact .inr ⟨(L.length - k, k), heq.symm, by rw [sub_sub' hk], Rd.grow_refl _ _, hw.ent zent⟩
  subst h5
  obtain ⟨t, ht⟩ := get_lt (lt_of_kind hq (by decide))
  have htq : t.kind = 5 := by rw [← kind_at ht, hq]
  rw [needT_yes ht htq] at heq
  have hlt := (List.getElem?_eq_some_iff.1 ht).1
  ((repeat' (first|refine zza ?_|refine zc9 ?_|refine zzb fun w hw => ?_|refine zzh fun _ => ?_|refine zzi fun _ _ => ?_|refine zzj (fun _ => ?_) fun _ => ?_)); (repeat' (refine CW_seq ?_; (repeat' (first|refine zza ?_|refine zc9 ?_|refine zzb fun w hw => ?_|refine zzh fun _ => ?_|refine zzi fun _ _ => ?_|refine zzj (fun _ => ?_) fun _ => ?_)))))
  (apply WL_callU1 (h := prs b p L.length c k d); (first | exact .here | exact .there .here | exact .there (.there .here) | exact .there (.there (.there .here)) | exact .there (.there (.there (.there .here))) | exact .there (.there (.there (.there (.there .here)))) | exact .there (.there (.there (.there (.there (.there .here)))))); (first | exact .here | exact .there .here | exact .there (.there .here) | exact .there (.there (.there .here)) | exact .there (.there (.there (.there .here))) | exact .there (.there (.there (.there (.there .here)))) | exact .there (.there (.there (.there (.there (.there .here)))))); rfl; rfl; rfl; (intro W fp hO hS; exact par_need b p c k d L 5 t G W fp hR ht htq hO hS))
  ((repeat' (first|refine zza ?_|refine zc9 ?_|refine zzb fun w hw => ?_|refine zzh fun _ => ?_|refine zzi fun _ _ => ?_|refine zzj (fun _ => ?_) fun _ => ?_)); (repeat' (refine CW_seq ?_; (repeat' (first|refine zza ?_|refine zc9 ?_|refine zzb fun w hw => ?_|refine zzh fun _ => ?_|refine zzi fun _ _ => ?_|refine zzj (fun _ => ?_) fun _ => ?_)))))
  change (exP d (L.drop (k + 1))).bind _ = Z at heq
  refine WL_callPar (G := G) (r := []) b p c L (k + 1) d (exP d (L.drop (k + 1))) ExRep (fun W fp' hW hO hS hF => hE (k + 1) (by omega) b d G W fp' (by omega) (by omega) hR hO hS) ?_ ?_
  case refine_2 =>
    intro y k' hy
    rw [hy] at heq
    ((repeat' (first|refine zza ?_|refine zc9 ?_|refine zzb fun w hw => ?_|refine zzh fun _ => ?_|refine zzi fun _ _ => ?_|refine zzj (fun _ => ?_) fun _ => ?_)); (repeat' (refine CW_seq ?_; (repeat' (first|refine zza ?_|refine zc9 ?_|refine zzb fun w hw => ?_|refine zzh fun _ => ?_|refine zzi fun _ _ => ?_|refine zzj (fun _ => ?_) fun _ => ?_)))))
    exact .inr ⟨(y, k'), heq.symm, rfl, Rd.grow_refl _ _, hw.ent zent⟩
  rintro ⟨G1, e1, k1, v1⟩ hy hk1 hk1L hr1 hg1
  dsimp only at hy hk1 hk1L hr1 hg1 ⊢
  obtain ⟨T1, u1, rfl⟩ := Ex.rep_iface hr1
  rw [hy] at heq
  change (needT 6 (L.drop k1)).bind _ = Z at heq
  ((repeat' (first|refine zza ?_|refine zc9 ?_|refine zzb fun w hw => ?_|refine zzh fun _ => ?_|refine zzi fun _ _ => ?_|refine zzj (fun _ => ?_) fun _ => ?_)); (repeat' (refine CW_seq ?_; (repeat' (first|refine zza ?_|refine zc9 ?_|refine zzb fun w hw => ?_|refine zzh fun _ => ?_|refine zzi fun _ _ => ?_|refine zzj (fun _ => ?_) fun _ => ?_)))))
  by_cases h6 : kindT (L.drop k1) = 6
  · obtain ⟨t6, ht6⟩ := get_lt (lt_of_kind h6 (by decide))
    have htq6 : t6.kind = 6 := by rw [← kind_at ht6, h6]
    have hlt6 := (List.getElem?_eq_some_iff.1 ht6).1
    rw [needT_yes ht6 htq6] at heq
    (apply WL_callU1 (h := prs b p L.length c k1 d); (first | exact .here | exact .there .here | exact .there (.there .here) | exact .there (.there (.there .here)) | exact .there (.there (.there (.there .here))) | exact .there (.there (.there (.there (.there .here)))) | exact .there (.there (.there (.there (.there (.there .here)))))); (first | exact .here | exact .there .here | exact .there (.there .here) | exact .there (.there (.there .here)) | exact .there (.there (.there (.there .here))) | exact .there (.there (.there (.there (.there .here)))) | exact .there (.there (.there (.there (.there (.there .here)))))); rfl; rfl; rfl; (intro W fp hO hS; exact par_need b p c k1 d L 6 t6 G1 W fp (hR.mono hg1.1) ht6 htq6 hO hS))
    ((repeat' (first|refine zza ?_|refine zc9 ?_|refine zzb fun w hw => ?_|refine zzh fun _ => ?_|refine zzi fun _ _ => ?_|refine zzj (fun _ => ?_) fun _ => ?_)); (repeat' (refine CW_seq ?_; (repeat' (first|refine zza ?_|refine zc9 ?_|refine zzb fun w hw => ?_|refine zzh fun _ => ?_|refine zzi fun _ _ => ?_|refine zzj (fun _ => ?_) fun _ => ?_)))))
    exact .inl ⟨(G1, e1, k1 + 1, .iface T1 u1), ⟨heq.symm, by dsimp only; omega, by dsimp only; omega, hr1⟩, rfl, hg1, hw.ent zent⟩
  · rw [needT_no hk1L h6] at heq
    refine WL_callPm (m1 := [prs b p L.length c k1 d]) (M := [prs b p L.length c k1 d]) (G := G1) zent rfl rfl rfl (fun W fp hO hS => par_needN b p c k1 d L 6 G1 W fp (hR.mono hg1.1) hk1L h6 hO hS) ?_
    ((repeat' (first|refine zza ?_|refine zc9 ?_|refine zzb fun w hw => ?_|refine zzh fun _ => ?_|refine zzi fun _ _ => ?_|refine zzj (fun _ => ?_) fun _ => ?_)); (repeat' (refine CW_seq ?_; (repeat' (first|refine zza ?_|refine zc9 ?_|refine zzb fun w hw => ?_|refine zzh fun _ => ?_|refine zzi fun _ _ => ?_|refine zzj (fun _ => ?_) fun _ => ?_)))))
    exact .inr ⟨(L.length - k1, k1), heq.symm, by rw [sub_sub' hk1L], Rd.grow_refl _ _, hw.ent (Ent.roLe hg1.1 zpk zent)⟩
end Go.Proofs.YtngeooflfkpikaaGreatDoor
