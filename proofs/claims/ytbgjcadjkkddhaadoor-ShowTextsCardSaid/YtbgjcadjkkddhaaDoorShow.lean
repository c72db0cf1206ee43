/-
  Package show: what number, numbers, widths and Text return.
-/
import Derived.Test.YtbgjcadjkkddhaaDoorBuild
import Derived.Test.YtbgjcadjkkddhaaDoorShowPlain
import Derived.Test.YtbgjcadjkkddhaaDoorShelf
import Derived.Test.YtbgjcadjkkddhaaDoorOwn
import Derived.Test.YtbgjcadjkkddhaaDoorShape
import Derived.Deep.CutBlock
import Derived.Deep.DeepMust
import Derived.Deep.RegionWith
import Derived.IntWalk
namespace Go.Proofs.YtbgjcadjkkddhaaDoor
open Go.RowKit

/-- the table that Itoa reads -/
abbrev Glob (w : World) : Prop := Lib.TabIs Tryd.prog w "internal/strconv.uint64pow10" .u64 Lib.pow10Tab
theorem gPow : Tryd.prog.globalNamed "internal/strconv.uint64pow10" = some 2 := by kernel_rfl
theorem Glob.below {w w' : World} {B : Nat} (h : Glob w) (hb : Below B w w') (hB : 2 < B) : Glob w' := var?_below hb gPow hB h
theorem Glob.lt {w : World} (h : Glob w) : 2 < w.heap.size := by
  have := h.cell gPow 0 (by decide)
  unfold World.cell? at this
  rcases Nat.lt_or_ge 2 w.heap.size with h' | h'
  · exact h'
  · rw [Array.getElem?_eq_none h'] at this; simp at this

theorem bytes_eq {a b : ByteArray} (h : a.data.toList = b.data.toList) : a = b := by
  cases a; cases b; simp at h; rw [h]

theorem below_grow (w : World) (k : Nat) (os : Array Obj) : Below w.heap.size w (Sort.grow (w.drewN k) os) :=
  ⟨rfl, rfl, rfl, by simp [Sort.grow], fun i hi => by simp [Sort.grow, Array.getElem?_append, hi]⟩

set_option maxHeartbeats 400000 in
theorem show_number (n : Int) (hn : I64 n) (w : World) (hG : Glob w) :
    Calls Tryd.prog 70 #[.int .i64 n] w fun e w' => e = .returned (.string ⟨(numText n).toArray⟩) ∧ Below w.heap.size w w' := by
  have hI := Tryd.strconv_Itoa n hn.1 hn.2 w hG
  by_cases h : n < 0
  · rw [itoa_neg h] at hI
    have he : numText n = 194 :: 175 :: Lib.decDigits n.natAbs := by unfold numText; rw [if_pos h]
    have He := Lib.hid he
    have HI := Lib.hid hI
    have hl20 : (Lib.decDigits n.natAbs).length ≤ 20 := by rw [Lib.decDigits_length]; exact Lib.nDigits_le20 _ (by have := hn.1; have := hn.2; omega)
    clear he hI hG hn
    generalize hl : Lib.decDigits n.natAbs = l at *
    obtain ⟨s, hs⟩ : ∃ s : ByteArray, s = ⟨(45 :: l).toArray⟩ := ⟨_, rfl⟩
    rw [← hs] at HI
    have hsz : s.size = l.length + 1 := by rw [hs]; simp [ByteArray.size]
    have hsz1 : 1 ≤ s.size := by omega
    have hsz2 : s.size ≤ 21 := by omega
    have Hs := Lib.hid hs
    clear hs hsz hl
    go_enter Tryd.func70, Tryd.ntmps70
    go_wp2_with (go_at_call 96; refine HI.out.mono ?_; rintro e w' ⟨rfl, k, os, rfl⟩)
    go_ret
    refine ⟨ret_val ?_, below_grow _ _ _⟩
    show Value.string (⟨#[194, 175]⟩ ++ s.extract 1 s.size) = _
    rw [He.out, Hs.out]
    exact congrArg Value.string (bytes_eq (by simp [ByteArray.size]))
  · rw [itoa_nonneg h] at hI
    have HI := Lib.hid hI
    clear hI hG hn
    go_enter Tryd.func70, Tryd.ntmps70
    go_wp2_with (go_at_call 96; refine HI.out.mono ?_; rintro e w' ⟨rfl, k, os, rfl⟩)
    go_ret
    exact ⟨rfl, below_grow _ _ _⟩

theorem bld_below {T e : TypeId} {B b : Nat} {bs : List Value} {w w' : World} (h : Lib.IsBuilderF T e B b bs w) (hb : Below w.heap.size w w') : Lib.IsBuilderF T e B b bs w' := by
  have key : ∀ p, Lib.BuilderAtF T e B b p bs w → Lib.BuilderAtF T e B b p bs w' := by
    rintro p ⟨hB, v, hbk, hown, hne⟩
    have lt : ∀ (k : Nat) o, w.heap[k]? = some o → w'.heap[k]? = some o := fun k o hk => by
      have : k < w.heap.size := (Array.getElem?_eq_some_iff.1 hk).1
      rw [hb.block k this]; exact hk
    refine ⟨hB, v, lt _ _ hbk, ⟨hown.1, ?_⟩, hne⟩
    rcases hown.2 with h | ⟨g, cap, cur, fz, hv, h1, h2, h3⟩
    · exact .inl h
    · exact .inr ⟨g, cap, cur, fz, hv, h1, lt _ _ h2, h3⟩
  exact h.elim (fun x => .inl (key _ x)) (fun x => .inr (key _ x))
theorem kept_below {e : TypeId} {b : Option Nat} {w w' : World} (hb : Below w.heap.size w w') : Lib.OthersKept e b w w' := fun k o hk _ _ => by
  have : k < w.heap.size := (Array.getElem?_eq_some_iff.1 hk).1
  rw [hb.block k this]; exact hk

/-- what may have come of the world while a builder in block b was written -/
def Reach (B b : Nat) (w W : World) : Prop := Below B w W ∧ Lib.OthersKept 5 (some b) w W
theorem Reach.refl (B b : Nat) (w : World) : Reach B b w w := ⟨Below.refl _ _, Lib.OthersKept.refl _ _ _⟩
theorem Reach.step {B b : Nat} {w W W' : World} (h : Reach B b w W) (h1 : Below B W W') (h2 : Lib.OthersKept 5 (some b) W W') : Reach B b w W' := ⟨h.1.trans h1, h.2.trans h2⟩
theorem Reach.grow {B b : Nat} {w W W' : World} (h : Reach B b w W) (hB : B ≤ w.heap.size) (h1 : Below W.heap.size W W') : Reach B b w W' := ⟨h.1.trans (h1.mono (Nat.le_trans hB h.1.size)), h.2.trans (kept_below h1)⟩
theorem Reach.size {B b : Nat} {w W : World} (h : Reach B b w W) (hB : B ≤ w.heap.size) : B ≤ W.heap.size := Nat.le_trans hB h.1.size

theorem liesW : Lies 86 := ⟨by kernel_rfl, by decide⟩

set_option maxHeartbeats 1000000 in
set_option maxRecDepth 100000 in
theorem show_numbers (B b : Nat) (l : List UInt8) (row wide : List Int) (pr pw : Option Addr) (cr cw : Nat) (w : World) (hb : Bld 86 B b l w) (hB : B ≤ w.heap.size)
    (hR : ∀ W, Reach B b w W → IntsAt W pr cr row) (hW : ∀ W, Reach B b w W → IntsAt W pw cw wide) (hG : ∀ W, Reach B b w W → Glob W)
    (hwd : ∀ i, i < row.length → i < wide.length → (numWidth (row.getD i 0) : Int) ≤ wide.getD i 0 ∧ wide.getD i 0 ≤ 21) (hlen : l.length + 44 * row.length ≤ 1099511627776) :
    Calls Tryd.prog 41 #[.pointer (some ⟨b, 0, none⟩), .slice pr row.length cr, .slice pw wide.length cw] w fun e w' => e = .returned (.tuple #[]) ∧ Bld 86 B b (l ++ numsFrom wide 0 row) w' ∧ Reach B b w w' := by
  have hr0 := hR w (Reach.refl _ _ _)
  have hw0 := hW w (Reach.refl _ _ _)
  have hix := fun k hk => hr0.idx Tryd.underlying23 Tryd.sizeOf3 rfl .i64 k hk
  have hiw := fun k hk => hw0.idx Tryd.underlying23 Tryd.sizeOf3 rfl .i64 k hk
  have hm := len_max hr0.le hr0.max
  have hm2 := len_max hw0.le hw0.max
  have HR := Lib.hid hR
  have HW := Lib.hid hW
  have HG := Lib.hid hG
  have Hwd := Lib.hid hwd
  have Hb := Lib.hid hb
  clear hr0 hw0 hR hW hG hwd hb
  obtain ⟨n, hn⟩ : ∃ n, n = row.length := ⟨_, rfl⟩
  rw [← hn] at hix hm hlen ⊢
  obtain ⟨m, hm'⟩ : ∃ m, m = wide.length := ⟨_, rfl⟩
  rw [← hm'] at hiw hm2 ⊢
  have HN := Lib.hid hn
  have HM := Lib.hid hm'
  clear hn hm'
  go_enter Tryd.func41, Tryd.ntmps41
  go_wp2_with fail
  go_loopw [11] (fun i wr => ∃ (k : Nat) (pre : List UInt8), k ≤ n ∧ i = .int .i64 k ∧ Reach B b w wr ∧ Bld 86 B b (l ++ pre) wr ∧ numsFrom wide 0 row = pre ++ numsFrom wide k (row.drop k) ∧ pre.length ≤ 44 * k) (fun i _ => n - (intOf i).toNat)
  case atStart => exact ⟨0, [], by omega, rfl, Reach.refl _ _ _, by simpa using Hb.out, by simp, by simp⟩
  case round =>
    obtain ⟨k, pre, hk, rfl, hre, hbl, hpre, hpl⟩ := hrel
    have Hre := Lib.hid hre
    have Hbl := Lib.hid hbl
    have Hpre := Lib.hid hpre
    clear hre hbl hpre
    by_cases hlt : k < n
    · have hix := hix k hlt
      have hks : k < row.length := by rw [← HN.out]; exact hlt
      have hxk := (HR.out wr Hre.out).get k hks
      have hd := drop_getD hks
      have hx := (HR.out wr Hre.out).rngD k hks
      obtain ⟨x, hxx⟩ : ∃ x, x = row.getD k 0 := ⟨_, rfl⟩
      rw [← hxx] at hxk hd hx
      have Hx := Lib.hid hx
      have Hxx := Lib.hid hxx
      have Hd := Lib.hid hd
      clear hd hks hxx hx
      go_upto_if 17 with fail
      go_cut [] (fun wx => Reach B b w wx ∧ Bld 86 B b (l ++ (pre ++ if 0 < k then [32] else [])) wx)
      case first =>
        by_cases h0 : 0 < k
        · go_wp2_with fail
          refine (bld_WriteByte _ liesW B b _ 32 _ Hbl.out (by rw [Lib.byteCells_length, List.length_append]; omega) (Hre.out.size hB)).mono ?_
          rintro e w1 ⟨rfl, h1, h2, h3⟩
          have H1 := Lib.hid h1
          have H2 := Lib.hid (Hre.out.step h2 h3)
          clear h1 h2 h3
          go_wp2_with fail
          go_meet
          case rel => exact ⟨H2.out, .inr (by simpa [Lib.byteCells, h0] using H1.out)⟩
        · go_wp2_with fail
          go_meet
          case rel => exact ⟨Hre.out, by rw [if_neg (by omega)]; simpa using Hbl.out⟩
      case rest =>
        obtain ⟨hre, hbl⟩ := hcut
        obtain ⟨pre1, hp1⟩ : ∃ p, p = pre ++ (if 0 < k then [32] else []) := ⟨_, rfl⟩
        rw [← hp1] at hbl
        have hpl1 : pre1.length ≤ 44 * k + 1 := by rw [hp1]; split <;> simp <;> omega
        have Hre1 := Lib.hid hre
        have Hbl1 := Lib.hid hbl
        have Hp1 := Lib.hid hp1
        clear hre hbl hp1 Hre Hbl
        go_wp2_with fail
        refine (show_number x Hx.out _ (HG.out _ Hre1.out)).mono ?_
        rintro e w2 ⟨rfl, h1⟩
        have Hre2 := Lib.hid (Hre1.out.grow hB h1)
        have Hbl2 := Lib.hid (bld_below Hbl1.out h1)
        have hxl := numText_length x
        have hxw := numWidth_le Hx.out.1 Hx.out.2
        clear h1 Hre1 Hbl1
        obtain ⟨t, ht⟩ : ∃ t : ByteArray, t = ⟨(numText x).toArray⟩ := ⟨_, rfl⟩
        rw [← ht]
        have hts : t.size ≤ 22 := by rw [ht]; simp [ByteArray.size]; omega
        have Ht := Lib.hid ht
        clear ht
        go_upto_if 27 with fail
        go_cut [] (fun wx => Reach B b w wx ∧ Bld 86 B b (l ++ (pre1 ++ (if k < m then Lib.repeatL [32] (wide.getD k 0 - numWidth x).toNat else []))) wx)
        case first =>
          by_cases h0 : k < m
          · have hks : k < wide.length := by rw [← HM.out]; exact h0
            have hiw := hiw k h0
            obtain ⟨hw1, hw2⟩ := Hwd.out k (by rw [← HN.out]; exact hlt) hks
            have hwc := fun (W : World) (h : Reach B b w W) => (HW.out W h).get k hks
            rw [← Hxx.out] at hw1
            obtain ⟨wd, hwd⟩ : ∃ y, y = wide.getD k 0 := ⟨_, rfl⟩
            rw [← hwd] at hw1 hw2
            simp only [← hwd] at hwc
            have hwc0 := hwc _ Hre2.out
            have hRe : ∀ W, Below w2.heap.size w2 W → Reach B b w W := fun W h => Hre2.out.grow hB h
            have RC : ∀ W, Below w2.heap.size w2 W → Calls Tryd.prog 69 #[.string t] W fun e w' => e = .returned (.int .i64 (numWidth x)) ∧ Below w2.heap.size w2 w' ∧ w'.cell? (addrAt pw k) = some (.int .i64 wd) := fun W h => by
              refine (Tryd.utf8_RuneCountInString t W (by omega)).mono ?_
              rintro e w' ⟨rfl, pos, rfl⟩
              have h2 : Below w2.heap.size w2 (W.iter t pos) := Below.alloc h h.size _
              exact ⟨by rw [Ht.out, numText_count], h2, hwc _ (hRe _ h2)⟩
            obtain ⟨rep, hrep⟩ : ∃ r : ByteArray, r = ⟨(Lib.repeatL [32] (wd - numWidth x).toNat).toArray⟩ := ⟨_, rfl⟩
            have hrs : rep.size ≤ 21 := by rw [hrep]; simp [ByteArray.size, Lib.repeatL_length]; omega
            have RP : ∀ W, Below w2.heap.size w2 W → Calls Tryd.prog 73 #[.string ⟨#[32]⟩, .int .i64 (wd - (numWidth x : Int))] W fun e w' => e = .returned (.string rep) ∧ Below w2.heap.size w2 w' ∧ w'.cell? (addrAt pw k) = some (.int .i64 wd) := fun W h => by
              have e1 : (wd - (numWidth x : Int)) = (((wd - (numWidth x : Int)).toNat : Nat) : Int) := by omega
              rw [e1]
              refine (Tryd.strings_Repeat ⟨#[32]⟩ _ W (by omega) (by simp [ByteArray.size]; omega)).mono ?_
              rintro e w' ⟨rfl, h2⟩
              have h3 := h.trans (h2.mono h.size)
              exact ⟨by rw [hrep], h3, hwc _ (hRe _ h3)⟩
            have WS : ∀ W, Below w2.heap.size w2 W → Calls Tryd.prog 42 #[.pointer (some ⟨b, 0, none⟩), .string rep] W fun e w' => e = .returned (.tuple #[.int .i64 rep.size, .nilIface]) ∧ Reach B b w w' ∧ Bld 86 B b (l ++ (pre1 ++ Lib.repeatL [32] (wd - numWidth x).toNat)) w' ∧ w'.cell? (addrAt pw k) = some (.int .i64 wd) := fun W h => by
              refine (bld_WriteString _ liesW B b _ rep W (bld_below Hbl2.out h) (by rw [Lib.byteCells_length, List.length_append]; omega) ((hRe W h).size hB)).mono ?_
              rintro e w' ⟨rfl, h1, h2, h3⟩
              refine ⟨rfl, (hRe W h).step h2 h3, .inr ?_, hwc _ ((hRe W h).step h2 h3)⟩
              have e : Lib.strCells rep = Lib.byteCells (Lib.repeatL [32] (wd - numWidth x).toNat) := by rw [hrep]; simp [Lib.strCells, Lib.byteCells]
              rw [e] at h1
              simpa [Lib.byteCells] using h1
            have HRC := Lib.hid RC
            have HRP := Lib.hid RP
            have HWS := Lib.hid WS
            have Hwc := Lib.hid hwc
            have Hwd2 := Lib.hid hwd
            have hwrap : IntKind.i64.wrap (wd - (numWidth x : Int)) = wd - (numWidth x : Int) := IntWalk.i64_in _ ⟨by omega, by omega⟩
            have h2r : Below w2.heap.size w2 w2.drew := (Below.refl _ _).drew
            clear hwd hks hwc hRe RC RP WS hrep
            go_wp2_with fail
            go_region_held3 (fun W => W.cell? (addrAt pw k) = some (.int .i64 wd)) (first | exact hc5 | exact hc4 | exact hc3 | exact hwc0)
              (first
                | (go_at_call 69; ((with_reducible refine (HRC.out _ h2r).mono ?_)); rintro e w3 ⟨rfl, h3, hc3⟩)
                | (go_at_call 73; ((with_reducible refine (HRP.out _ h3).mono ?_)); rintro e w4 ⟨rfl, h4, hc4⟩)
                | (go_at_call 42; ((with_reducible refine (HWS.out _ h4).mono ?_)); rintro e w5 ⟨rfl, h5, hb5, hc5⟩))
            have H5 := Lib.hid h5
            have H6 := Lib.hid hb5
            clear h5 hb5 hc5 hc3 hc4 h3 h4 hwc0 h2r hwrap hiw
            go_wp2_with fail
            go_meet
            case rel => exact ⟨H5.out, by rw [if_pos h0, ← Hwd2.out]; exact H6.out⟩
          · go_wp2_with fail
            go_meet
            case rel => exact ⟨Hre2.out, by rw [if_neg (by omega)]; simpa using Hbl2.out⟩
        case rest =>
          obtain ⟨hre, hbl⟩ := hcut
          obtain ⟨pre2, hp2⟩ : ∃ p, p = pre1 ++ (if k < m then Lib.repeatL [32] (wide.getD k 0 - numWidth x).toNat else []) := ⟨_, rfl⟩
          rw [← hp2] at hbl
          have hpl2 : pre2.length ≤ 44 * k + 22 := by
            rw [hp2]
            split
            · have := Hwd.out k (by rw [← HN.out]; exact hlt) (by rw [← HM.out]; assumption)
              have h1 := numWidth_pos x
              rw [List.length_append, Lib.repeatL_length, List.length_singleton]
              omega
            · rw [List.length_append]; simp; omega
          have Hre3 := Lib.hid hre
          have Hbl3 := Lib.hid hbl
          have Hp2 := Lib.hid hp2
          clear hre hbl hp2 Hre2 Hbl2
          go_wp2_with fail
          refine (bld_WriteString _ liesW B b _ t _ Hbl3.out (by rw [Lib.byteCells_length, List.length_append]; omega) (Hre3.out.size hB)).mono ?_
          rintro e w4 ⟨rfl, h1, h2, h3⟩
          have H1 := Lib.hid h1
          have H2 := Lib.hid (Hre3.out.step h2 h3)
          clear h1 h2 h3
          go_wp2_with fail
          go_roundw
          case rel =>
            refine ⟨k + 1, pre2 ++ numText x, by omega, by go_num, H2.out, .inr ?_, ?_, ?_⟩
            · have h1 := H1.out
              have e : Lib.strCells t = Lib.byteCells (numText x) := by rw [Ht.out]; simp [Lib.strCells, Lib.byteCells]
              rw [e] at h1
              simpa [Lib.byteCells] using h1
            · rw [Hpre.out, Hd.out, Hp2.out, Hp1.out, numsFrom, cellText, HM.out]
              simp
            · simp; omega
          case measure => simp [intOf]; omega
    · have hkn : k = n := by omega
      have hnum : numsFrom wide 0 row = pre := by rw [Hpre.out, drop_end (by rw [← HN.out]; omega), numsFrom, List.append_nil]
      have Hnum := Lib.hid hnum
      clear hnum hkn
      go_wp2_with fail
      go_end0
      exact ⟨rfl, by rw [Hnum.out]; exact Hbl.out, Hre.out⟩

end Go.Proofs.YtbgjcadjkkddhaaDoor
