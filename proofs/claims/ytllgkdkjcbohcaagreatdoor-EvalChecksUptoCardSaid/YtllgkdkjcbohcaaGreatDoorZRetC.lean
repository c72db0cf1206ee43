/-
  shape.Count and arr.Check: what they return.
  The logic of walks: several results, of which the first lies in a variable.
  The logic of walks: a block as a slice of the call's own.
-/
import Derived.Test.YtllgkdkjcbohcaaGreatDoorProg
import Derived.Test.YtllgkdkjcbohcaaGreatDoorZRule
import Derived.Test.YtllgkdkjcbohcaaGreatDoorZGo
namespace Go.Proofs.YtllgkdkjcbohcaaGreatDoor
open Go.RowKit
def badAxis : List Int → Int
  | [] => 0
  | n :: r => if n < 0 then 4 else if 4096 < n then 7 else badAxis r
def hasZero : List Int → Bool
  | [] => false
  | n :: r => if n = 0 then true else hasZero r
def prodF (a : Int) : List Int → Int × Int
  | [] => (a, 0)
  | n :: r => if 4096 < a * n then (0, 7) else prodF (a * n) r
/-- how many cells a shape has, and the error's number -/
def countF (s : List Int) : Int × Int :=
  if 6 < s.length then (0, 3) else if badAxis s ≠ 0 then (0, badAxis s) else if hasZero s = true then (0, 0) else prodF 1 s
theorem wrap_mul {a x : Int} (ha : 0 ≤ a) (ha' : a ≤ 4096) (hx : 0 ≤ x) (hx' : x ≤ 4096) : wrap64 (a * x) = a * x := by
  have h1 : 0 ≤ a * x := Int.mul_nonneg ha hx
  have h2 : a * x ≤ 4096 * 4096 := Int.mul_le_mul ha' hx' hx (by omega)
  exact IntWalk.wrap64_in _ ⟨by omega, by omega⟩
theorem badAxis_zero {s : List Int} (h : badAxis s = 0) : ∀ x ∈ s, 0 ≤ x ∧ x ≤ 4096 := by
  induction s with
  | nil => simp
  | cons n r ih =>
    rw [badAxis] at h
    split at h
    · exact absurd h (by decide)
    · split at h
      · exact absurd h (by decide)
      · intro x hx
        cases List.mem_cons.1 hx with
        | inl e => subst e; omega
        | inr e => exact ih h x e
theorem hasZero_false {s : List Int} (h : hasZero s = false) : ∀ x ∈ s, x ≠ 0 := by
  induction s with
  | nil => simp
  | cons n r ih =>
    rw [hasZero] at h
    split at h
    · cases h
    · intro x hx
      cases List.mem_cons.1 hx with
      | inl e => subst e; assumption
      | inr e => exact ih h x e
theorem count_ret {s : List Int} {T : TypeId} {m e : Int} {V : Value} (h : countF s = (m, e)) (hV : V = errV T e) :
    Ending.returned (.tuple #[.int .i64 m, V]) = .returned (.tuple #[.int .i64 (countF s).1, errV T (countF s).2]) := by rw [h, hV]
set_option maxHeartbeats 1000000 in
theorem shape_Count (p : Option Addr) (c : Nat) (s : List Int) (w : World) (h : IntsAt w p c s) :
    Calls Tryz.prog 112 #[.slice p s.length c] w fun e w' => e = .returned (.tuple #[.int .i64 (countF s).1, errV 49 (countF s).2]) ∧ w' = w := by
  have hix := fun k hk => h.idx Tryz.underlying30 Tryz.sizeOf3 rfl .i64 k hk
  have hg := fun k hk => h.get k hk
  have hm := len_max h.le h.max
  clear h
  by_cases h6 : 6 < s.length
  · have Hc : Hid (countF s = (0, 3)) := by unfold Hid countF; rw [if_pos h6]
    clear hix hg
    go_enter Tryz.func112, Tryz.ntmps112
    go_wp2
    go_ret2
    exact ⟨count_ret Hc.out rfl, rfl⟩
  · obtain ⟨n, hn⟩ : ∃ n, n = s.length := ⟨_, rfl⟩
    have Hc : Hid (countF s = if badAxis s ≠ 0 then (0, badAxis s) else if hasZero s = true then (0, 0) else prodF 1 s) := by unfold Hid countF; rw [if_neg h6]
    rw [← hn] at hix hg h6 hm ⊢
    have HN := Lib.hid hn
    clear hn
    go_enter Tryz.func112, Tryz.ntmps112
    go_wp2
    go_loop [17] (fun i => ∃ k : Nat, k ≤ n ∧ i = .int .i64 k ∧ badAxis s = badAxis (s.drop k)) (fun i => n - (intOf i).toNat)
    case atStart => exact ⟨0, by omega, rfl, by simp⟩
    case round =>
      obtain ⟨k, hk, rfl, hj⟩ := hrel
      have Hj := Lib.hid hj
      clear hj
      by_cases hlt : k < n
      · have hix := hix k hlt
        have hxk := hg k hlt
        have hd := drop_getD (s := s) (k := k) (by rw [← HN.out]; exact hlt)
        obtain ⟨x, hxx⟩ : ∃ x, x = s.getD k 0 := ⟨_, rfl⟩
        rw [← hxx] at hxk hd
        have Hd := Lib.hid hd
        clear hxx hd hg
        by_cases h0 : x < 0
        · go_wp2
          go_ret2
          have e : badAxis s = 4 := by rw [Hj.out, Hd.out, badAxis, if_pos h0]
          exact ⟨count_ret (by rw [Hc.out, e]; rfl) rfl, rfl⟩
        · by_cases h1 : 4096 < x
          · go_wp2
            go_ret2
            have e : badAxis s = 7 := by rw [Hj.out, Hd.out, badAxis, if_neg (by omega), if_pos h1]
            exact ⟨count_ret (by rw [Hc.out, e]; rfl) rfl, rfl⟩
          · go_wp2
            go_round
            case rel => exact ⟨k + 1, by omega, by go_num, by rw [Hj.out, Hd.out, badAxis, if_neg (by omega), if_neg (by omega)]⟩
            case measure => simp [intOf]; omega
      · have hb0 : badAxis s = 0 := by rw [Hj.out, drop_end (by rw [← HN.out]; omega)]; rfl
        have hall := badAxis_zero hb0
        have Hall := Lib.hid hall
        have Hc2 : Hid (countF s = if hasZero s = true then (0, 0) else prodF 1 s) := by unfold Hid; rw [Hc.out, if_neg (by rw [hb0]; simp)]
        clear hb0 hall Hj
        go_wp2
        go_loop [30] (fun i => ∃ k : Nat, k ≤ n ∧ i = .int .i64 k ∧ hasZero s = hasZero (s.drop k)) (fun i => n - (intOf i).toNat)
        case atStart => exact ⟨0, by omega, rfl, by simp⟩
        case round =>
          obtain ⟨k, hk, rfl, hj⟩ := hrel
          have Hj := Lib.hid hj
          clear hj
          by_cases hlt : k < n
          · have hix := hix k hlt
            have hxk := hg k hlt
            have hd := drop_getD (s := s) (k := k) (by rw [← HN.out]; exact hlt)
            obtain ⟨x, hxx⟩ : ∃ x, x = s.getD k 0 := ⟨_, rfl⟩
            rw [← hxx] at hxk hd
            have Hd := Lib.hid hd
            clear hxx hd hg
            by_cases h0 : x = 0
            · have h0' : (x == 0) = true := by simpa using h0
              have H0 := Lib.hid h0
              clear h0
              go_wp2
              go_ret2
              have e : hasZero s = true := by rw [Hj.out, Hd.out, hasZero, if_pos H0.out]
              exact ⟨count_ret (by rw [Hc2.out, e]; rfl) rfl, rfl⟩
            · have h0' : (x == 0) = false := by simpa using h0
              have H0 := Lib.hid h0
              clear h0
              go_wp2
              go_round
              case rel => exact ⟨k + 1, by omega, by go_num, by rw [Hj.out, Hd.out, hasZero, if_neg H0.out]⟩
              case measure => simp [intOf]; omega
          · have hz : hasZero s = false := by rw [Hj.out, drop_end (by rw [← HN.out]; omega)]; rfl
            have Hnz := Lib.hid (hasZero_false hz)
            have Hc3 : Hid (countF s = prodF 1 s) := by unfold Hid; rw [Hc2.out, hz]; rfl
            clear hz Hj
            go_wp2
            go_loop [6, 39] (fun a i => ∃ (k : Nat) (acc : Int), k ≤ n ∧ i = .int .i64 k ∧ a = .int .i64 acc ∧ 1 ≤ acc ∧ acc ≤ 4096 ∧ prodF 1 s = prodF acc (s.drop k)) (fun _ i => n - (intOf i).toNat)
            case atStart => exact ⟨0, 1, by omega, rfl, rfl, by omega, by omega, by simp⟩
            case round =>
              obtain ⟨k, acc, hk, rfl, rfl, ha1, ha2, hj⟩ := hrel
              have Hj := Lib.hid hj
              clear hj
              by_cases hlt : k < n
              · have hix := hix k hlt
                have hxk := hg k hlt
                have hks : k < s.length := by rw [← HN.out]; exact hlt
                have hd := drop_getD hks
                have hmem : s.getD k 0 ∈ s := List.mem_of_getElem? (getD_some hks)
                have hx1 := (Hall.out _ hmem).2
                have hx0 := (Hall.out _ hmem).1
                have hxz := Hnz.out _ hmem
                obtain ⟨x, hxx⟩ : ∃ x, x = s.getD k 0 := ⟨_, rfl⟩
                rw [← hxx] at hxk hd hx1 hx0 hxz
                have Hd := Lib.hid hd
                have hmul := wrap_mul (by omega : 0 ≤ acc) ha2 hx0 hx1
                have hpos : 1 ≤ acc * x := by
                  have h1 : acc * 1 ≤ acc * x := Int.mul_le_mul_of_nonneg_left (by omega) (by omega)
                  omega
                obtain ⟨m, hm⟩ : ∃ m, m = acc * x := ⟨_, rfl⟩
                rw [← hm] at hpos
                have hmul' : wrap64 (acc * x) = m := by rw [hmul, hm]
                have Hm := Lib.hid hm
                clear hxx hd hg hks hmem hm hmul hx0 hx1 hxz
                by_cases hb : 4096 < m
                · go_wp2
                  go_ret2
                  have e : prodF 1 s = (0, 7) := by rw [Hj.out, Hd.out, prodF, if_pos (by rw [← Hm.out]; exact hb)]
                  exact ⟨count_ret (by rw [Hc3.out, e]) rfl, rfl⟩
                · go_wp2
                  go_round
                  case rel => exact ⟨k + 1, m, by omega, by go_num, congrArg (Value.int .i64) hmul', by omega, by omega, by rw [Hj.out, Hd.out, prodF, if_neg (by rw [← Hm.out]; omega), Hm.out]⟩
                  case measure => simp [intOf]; omega
              · have hz : prodF 1 s = (acc, 0) := by rw [Hj.out, drop_end (by rw [← HN.out]; omega)]; rfl
                have Hz := Lib.hid hz
                clear hz
                go_wp2
                go_ret2
                exact ⟨count_ret (by rw [Hc3.out, Hz.out]) rfl, rfl⟩
def charsOk : List Int → Bool
  | [] => true
  | c :: r => if c < 0 then false else if 1114111 < c then false else if 55296 ≤ c ∧ c ≤ 57343 then false else charsOk r
/-- what is wrong with an array: the error's number -/
def checkF (ch : Bool) (s d : List Int) : Int :=
  if (countF s).2 ≠ 0 then (countF s).2 else if (d.length : Int) ≠ (countF s).1 then 4 else if ch = true ∧ charsOk d = false then 6 else 0
set_option maxHeartbeats 1000000 in
theorem arr_Check (ch : Bool) (p q : Option Addr) (c1 c2 : Nat) (s d : List Int) (w : World) (hs : IntsAt w p c1 s) (hd : IntsAt w q c2 d) :
    Calls Tryz.prog 59 #[.agg #[.bool ch, .slice p s.length c1, .slice q d.length c2]] w fun e w' => e = .returned (errV 49 (checkF ch s d)) ∧ Below w.heap.size w w' := by
  have hC := fun w' (hb : Below w.heap.size w w') => shape_Count p c1 s w' (hs.below hb)
  have hix := fun k hk => hd.idx Tryz.underlying30 Tryz.sizeOf3 rfl .i64 k hk
  have hg := fun k hk => hd.get k hk
  have hm := len_max hd.le hd.max
  have HD := Lib.hid hd
  clear hs hd
  obtain ⟨⟨m, e⟩, hme⟩ : ∃ x, x = countF s := ⟨_, rfl⟩
  rw [← hme] at hC
  have Hchk : Hid (checkF ch s d = if e ≠ 0 then e else if (d.length : Int) ≠ m then 4 else if ch = true ∧ charsOk d = false then 6 else 0) := by unfold Hid checkF; rw [← hme]
  clear hme
  by_cases he : e = 0
  · subst he
    simp only [errV_zero] at hC
    have HC := Lib.hid hC
    clear hC
    by_cases hl : (d.length : Int) = m
    · have Hc2 : Hid (checkF ch s d = if ch = true ∧ charsOk d = false then 6 else 0) := by unfold Hid; rw [Hchk.out]; simp [hl]
      have hl' : ((d.length : Int) != m) = false := by simpa using hl
      clear Hchk hl
      cases ch with
      | false =>
        clear hix hg
        go_enter Tryz.func59, Tryz.ntmps59
        go_wp2_with (go_at_call 112; refine (HC.out _ ((Below.refl _ _).alloc (Nat.le_refl _) _)).mono ?_; rintro e w' ⟨rfl, rfl⟩)
        go_ret
        exact ⟨ret_val (by rw [Hc2.out]; rfl), (Below.refl _ _).alloc (Nat.le_refl _) _⟩
      | true =>
        have hgA : ∀ (k : Nat), k < d.length → ∀ o, (w.alloc o).cell? (addrAt q k) = some (.int .i64 (d.getD k 0)) := fun k hk o => by
          have h1 := ((HD.out.below ((Below.refl _ _).alloc (Nat.le_refl _) o)).get k hk)
          exact h1
        clear hg
        obtain ⟨n, hn⟩ : ∃ n, n = d.length := ⟨_, rfl⟩
        rw [← hn] at hix hgA hm hl' ⊢
        have HN := Lib.hid hn
        clear hn
        go_enter Tryz.func59, Tryz.ntmps59
        go_wp2_with (go_at_call 112; refine (HC.out _ ((Below.refl _ _).alloc (Nat.le_refl _) _)).mono ?_; rintro e w' ⟨rfl, rfl⟩)
        go_loop [27] (fun i => ∃ k : Nat, k ≤ n ∧ i = .int .i64 k ∧ charsOk d = charsOk (d.drop k)) (fun i => n - (intOf i).toNat)
        case atStart => exact ⟨0, by omega, rfl, by simp⟩
        case round =>
          obtain ⟨k, hk, rfl, hj⟩ := hrel
          have Hj := Lib.hid hj
          clear hj
          by_cases hlt : k < n
          · have hix := hix k hlt
            have hxk := hgA k hlt
            have hd := drop_getD (s := d) (k := k) (by rw [← HN.out]; exact hlt)
            obtain ⟨x, hxx⟩ : ∃ x, x = d.getD k 0 := ⟨_, rfl⟩
            rw [← hxx] at hxk hd
            have Hd := Lib.hid hd
            clear hxx hd hgA
            by_cases g0 : x < 0
            · go_wp2
              go_ret
              have e : charsOk d = false := by rw [Hj.out, Hd.out, charsOk, if_pos g0]
              exact ⟨ret_val (by rw [Hc2.out, e]; rfl), (Below.refl _ _).alloc (Nat.le_refl _) _⟩
            · by_cases g1 : 1114111 < x
              · go_wp2
                go_ret
                have e : charsOk d = false := by rw [Hj.out, Hd.out, charsOk, if_neg (by omega), if_pos g1]
                exact ⟨ret_val (by rw [Hc2.out, e]; rfl), (Below.refl _ _).alloc (Nat.le_refl _) _⟩
              · by_cases g2 : 55296 ≤ x
                · by_cases g3 : x ≤ 57343
                  · go_wp2
                    go_ret
                    have e : charsOk d = false := by rw [Hj.out, Hd.out, charsOk, if_neg (by omega), if_neg (by omega), if_pos (by omega)]
                    exact ⟨ret_val (by rw [Hc2.out, e]; rfl), (Below.refl _ _).alloc (Nat.le_refl _) _⟩
                  · go_wp2
                    go_round
                    case rel => exact ⟨k + 1, by omega, by go_num, by rw [Hj.out, Hd.out, charsOk, if_neg (by omega), if_neg (by omega), if_neg (by omega)]⟩
                    case measure => simp [intOf]; omega
                · go_wp2
                  go_round
                  case rel => exact ⟨k + 1, by omega, by go_num, by rw [Hj.out, Hd.out, charsOk, if_neg (by omega), if_neg (by omega), if_neg (by omega)]⟩
                  case measure => simp [intOf]; omega
          · have e : charsOk d = true := by rw [Hj.out, drop_end (by rw [← HN.out]; omega)]; rfl
            have He := Lib.hid e
            clear e hix hgA
            go_wp2
            go_ret
            exact ⟨ret_val (by rw [Hc2.out, He.out]; rfl), (Below.refl _ _).alloc (Nat.le_refl _) _⟩
    · have Hc2 : Hid (checkF ch s d = 4) := by unfold Hid; rw [Hchk.out]; simp [hl]
      have hl' : ((d.length : Int) != m) = true := by simpa using hl
      clear Hchk hl hix hg
      go_enter Tryz.func59, Tryz.ntmps59
      go_wp2_with (go_at_call 112; refine (HC.out _ ((Below.refl _ _).alloc (Nat.le_refl _) _)).mono ?_; rintro e w' ⟨rfl, rfl⟩)
      go_ret
      exact ⟨ret_val (by rw [Hc2.out]; rfl), (Below.refl _ _).alloc (Nat.le_refl _) _⟩
  · have Hc2 : Hid (checkF ch s d = e) := by unfold Hid; rw [Hchk.out, if_pos he]
    rw [errV_ne he] at hC
    have HC := Lib.hid hC
    clear hC Hchk hix hg
    go_enter Tryz.func59, Tryz.ntmps59
    go_wp2_with (go_at_call 112; refine (HC.out _ ((Below.refl _ _).alloc (Nat.le_refl _) _)).mono ?_; rintro e w' ⟨rfl, rfl⟩)
    go_ret
    exact ⟨ret_val (by rw [Hc2.out]; exact (errV_ne he).symm), (Below.refl _ _).alloc (Nat.le_refl _) _⟩
end Go.Proofs.YtllgkdkjcbohcaaGreatDoor
namespace Go.Proofs.YtllgkdkjcbohcaaGreatDoor
open Go.RowKit
section
variable {P : Program} {K : Cx} {ρ : Env} {m r : List HP} {ty : TypeId} {fs : List (Nat × Nat)} {zs : List Value}
theorem results_c3 {fn : Func} {n u x : Nat} {w : World} {tmps : Array Value} {a : Addr} {cs : List Value} {v1 v2 : Value} [S : StT P ty fs zs] (hr : fn.results = #[.cell n ty, .tmp u, .tmp x]) (ht : tmps.getD n undef = .pointer (some a)) (hc : ∀ j v, cs[j]? = some v → w.cell? (a.add j) = some v) (hl : cs.length = zs.length) (h1 : tmps.getD u undef = v1) (h2 : tmps.getD x undef = v2) : (results fn tmps).run P w = .ok (.tuple #[.agg cs.toArray, v1, v2]) w := by
  have h0 := run_loadCells_list (P := P) (w := w) a cs hc
  rw [hl] at h0
  unfold loadCells at h0
  rw [Array.getD_eq_getD_getElem?] at ht h1 h2
  simp [results, hr, ht, h1, h2, asAddr, loadVar, S.agg, S.size, h0, go_sem]
/-- three results, of which the first lies in a variable -/
theorem EX_retC3 {fn : Func} {R : Ending → World → Prop} {n b off u x : Nat} {T : TypeId} {cs : Array Value} {v1 v2 : Value} [S : StT P ty fs zs] (hD : K.D = []) (hr : fn.results = #[.cell n ty, .tmp u, .tmp x]) (ht : ρ.find n = some (.pointer (some ⟨b, off, none⟩))) (h1 : ρ.find u = some v1) (h2 : ρ.find x = some v2) (hp : Pick m (blk b T cs) r) (hl : Nat.ble (off + zs.length) cs.toList.length = true)
    (h : ∀ w, Holds K.w0 K.F m w → R (.returned (.tuple #[.agg ((cs.toList.drop off).take zs.length).toArray, v1, v2])) w) : EX K (QBody P fn R) .ret ρ m := ⟨fun a w hf hm => by
  have h0 := Nat.le_of_ble_eq_true hl
  have e1 : ((cs.toList.drop off).take zs.length).length = zs.length := by simp at h0 ⊢; omega
  refine ⟨hf.defs.trans hD, _, results_c3 (P := P) (ty := ty) hr (hf.get n _ ht) (rd_blk (K := K) hp (by rw [e1]) w hm) e1 (hf.get u _ h1) (hf.get x _ h2), h w hm⟩⟩
/-- a block, its cells told anew (by kernel_rfl) -/
theorem Ent.consK {b b' : Nat} {T : TypeId} {cs cs' : Array Value} {m' : List HP} (hp : Pick m (blk b T cs) r) (hb : b = b' := by rfl) (e : cs = cs' := by kernel_rfl) (k : Ent r m') : Ent m (blk b' T cs' :: m') := hb ▸ e ▸ Ent.cons hp k
end
end Go.Proofs.YtllgkdkjcbohcaaGreatDoor
namespace Go.Proofs.YtllgkdkjcbohcaaGreatDoor
open Go.RowKit
end Go.Proofs.YtllgkdkjcbohcaaGreatDoor
