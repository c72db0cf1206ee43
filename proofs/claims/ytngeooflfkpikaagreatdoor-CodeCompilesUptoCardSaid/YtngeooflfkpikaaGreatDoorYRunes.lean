/-
  ravelinref1.Runes: the runes of a text, or none.
-/
import Derived.Test.YtngeooflfkpikaaGreatDoorYGlob
import Derived.Test.YtngeooflfkpikaaGreatDoorYLexPlain
import Derived.Deep.CutBlock
import Derived.Deep.DeepMust
namespace Go.Proofs.YtngeooflfkpikaaGreatDoor
open Go.RowKit
def RunesPost (l : List UInt8) (w : World) (e : Ending) (w' : World) : Prop :=
  Below w.heap.size w w' ∧ ((runesL l = none ∧ e = .returned (.tuple #[.slice none 0 0, .bool false])) ∨
    ∃ cs p cap, runesL l = some cs ∧ e = .returned (.tuple #[.slice p cs.length cap, .bool true]) ∧ IntsAt w' p cap cs)
set_option maxHeartbeats 2000000 in
set_option maxRecDepth 100000 in
theorem ref_Runes (s : ByteArray) (w : World) (hs : s.size ≤ 17592186044416) :
    Calls Tryz.prog 241 #[.string s] w (RunesPost s.data.toList w) := by
  go_enter Tryz.func241, Tryz.ntmps241
  go_wp2
  go_loopw [5, 4] (fun i v wr => ∃ (k : Nat) (cs : List Int), k ≤ s.size ∧ i = .int .i64 k ∧ OwnI wr w.heap.size v cs ∧ cs.length ≤ k ∧ Below w.heap.size w wr ∧ runesL s.data.toList = (runesL (s.data.toList.drop k)).map (cs ++ ·)) (fun i _ _ => s.size - (intOf i).toNat)
  case atStart => exact ⟨0, [], by omega, rfl, OwnI.nil _ _, by simp, Below.refl _ _, by simp⟩
  case round =>
    obtain ⟨k, cs, hk, rfl, hown, hlen, hbel, hj⟩ := hrel
    have Hj := Lib.hid hj
    have Hown := Lib.hid hown
    have Hbel := Lib.hid hbel
    clear hj hown hbel
    by_cases hlt : k < s.size
    · have hdr : s.data.toList.drop k = s[k]'hlt :: s.data.toList.drop (k + 1) := by
        rw [List.drop_eq_getElem_cons (by simpa using hlt)]; rfl
      have Hdr := Lib.hid hdr
      clear hdr
      obtain ⟨b, hidx, hb0, hb1, hwb, Hbb⟩ := strIdx' Tryz.underlying9 s k hlt .i64 rfl
      go_upto_region 8 with fail
      clear hwb hidx
      go_cut [25] (fun t wx => wx = wr ∧ t = .bool (decide (240 ≤ b ∧ b < 248)))
      case first =>
        by_cases g1 : 240 ≤ b
        · by_cases g2 : b < 248
          · go_wp2_with fail
            go_meet
            case rel => exact ⟨rfl, congrArg Value.bool (by simp [g1, g2])⟩
          · go_wp2_with fail
            go_meet
            case rel => exact ⟨rfl, congrArg Value.bool (by simp; omega)⟩
        · go_wp2_with fail
          go_meet
          case rel => exact ⟨rfl, congrArg Value.bool (by simp; omega)⟩
      case rest =>
        obtain ⟨rfl, rfl⟩ := hcut
        go_upto_if 25 with fail
        go_cut [7, 8, 9] (fun t7 t8 t9 wx => wx = wc ∧ ∃ (m : Nat) (le c0 : Int), headF b = some (m, le, c0) ∧ t7 = .int .i64 m ∧ t8 = .int .i64 le ∧ t9 = .int .i64 c0)
        case first =>
          have hfail : ¬ (240 ≤ b ∧ b < 248) → ¬ (224 ≤ b ∧ b < 240) → ¬ (192 ≤ b ∧ b < 224) → 128 ≤ b → runesL s.data.toList = none := fun h1 h2 h3 h4 => by
            rw [Hj.out, Hdr.out, runesL_bad]
            · rfl
            · simp only [runeF, ← Hbb.out, headF, if_neg h1, if_neg h2, if_neg h3, if_pos h4]
          have Hf := Lib.hid hfail
          clear hfail
          by_cases g1 : 240 ≤ b
          · by_cases g2 : b < 248
            · have hd : decide (240 ≤ b ∧ b < 248) = true := by simp [g1, g2]
              go_wp2_with fail
              go_meet
              case rel => exact ⟨rfl, 3, 65536, b - 240, by unfold headF; rw [if_pos (by omega)], rfl, rfl, rfl⟩
            · have hd : decide (240 ≤ b ∧ b < 248) = false := by simp; omega
              go_wp2_with fail
              go_ret2
              exact ⟨Hbel.out, .inl ⟨Hf.out (by omega) (by omega) (by omega) (by omega), rfl⟩⟩
          · have hd : decide (240 ≤ b ∧ b < 248) = false := by simp; omega
            by_cases g3 : 224 ≤ b
            · go_wp2_with fail
              go_meet
              case rel => exact ⟨rfl, 2, 2048, b - 224, by unfold headF; rw [if_neg (by omega), if_pos (by omega)], rfl, rfl, rfl⟩
            · by_cases g4 : 192 ≤ b
              · go_wp2_with fail
                go_meet
                case rel => exact ⟨rfl, 1, 128, b - 192, by unfold headF; rw [if_neg (by omega), if_neg (by omega), if_pos (by omega)], rfl, rfl, rfl⟩
              · by_cases g5 : 128 ≤ b
                · go_wp2_with fail
                  go_ret2
                  exact ⟨Hbel.out, .inl ⟨Hf.out (by omega) (by omega) (by omega) (by omega), rfl⟩⟩
                · go_wp2_with fail
                  go_meet
                  case rel => exact ⟨rfl, 0, 0, b, by unfold headF; rw [if_neg (by omega), if_neg (by omega), if_neg (by omega), if_neg (by omega)], rfl, rfl, rfl⟩
        case rest =>
          obtain ⟨rfl, m, le, c0, hh, rfl, rfl, rfl⟩ := hcut
          have Hh := Lib.hid hh
          clear hh
          have hbd := headF_bd Hh.out hb0 hb1
          obtain ⟨hm3, hc00, hc01, hle0, hle1⟩ := hbd
          have hnone : contF m c0 (s.data.toList.drop (k + 1)) = none → runesL s.data.toList = none := fun h1 => by
            rw [Hj.out, Hdr.out, runesL_bad (runeF_bad1 (by rw [← Hbb.out]; exact Hh.out) h1)]; rfl
          have Hnone := Lib.hid hnone
          clear hnone
          go_wp2_with fail
          go_loop [10, 9] (fun t10 t9 => ∃ (j : Nat) (cc : Int), 1 ≤ j ∧ j ≤ m + 1 ∧ t10 = .int .i64 j ∧ t9 = .int .i64 cc ∧ 0 ≤ cc ∧ cc ≤ bnd j ∧ k + j ≤ s.size ∧ contF m c0 (s.data.toList.drop (k + 1)) = contF (m + 1 - j) cc (s.data.toList.drop (k + j))) (fun t10 _ => m + 1 - (intOf t10).toNat)
          case atStart => exact ⟨1, c0, by omega, by omega, rfl, rfl, hc00, hc01, by omega, rfl⟩
          case round =>
            obtain ⟨j, cc, hj1, hj2, rfl, rfl, hcc0, hcc1, hkj, hcont⟩ := hrel
            have Hcc := Lib.hid hcc1
            have hcb := Int.le_trans hcc1 (bnd_le j)
            have Hcont := Lib.hid hcont
            clear hcc1 hcont hc01
            by_cases hjm : j ≤ m
            · by_cases hsz : k + j < s.size
              · have hcs : contF m c0 (s.data.toList.drop (k + 1)) = if (s[k + j]'hsz).toNat < 128 then none else if 192 ≤ (s[k + j]'hsz).toNat then none else contF (m + 1 - (j + 1)) (cc * 64 + (s[k + j]'hsz).toNat - 128) (s.data.toList.drop (k + (j + 1))) := by
                  have hdr : s.data.toList.drop (k + j) = s[k + j]'hsz :: s.data.toList.drop (k + (j + 1)) := by
                    rw [List.drop_eq_getElem_cons (by simpa using hsz)]; rfl
                  have hmj : m + 1 - j = (m + 1 - (j + 1)) + 1 := by omega
                  rw [Hcont.out, hmj, hdr, contF_cons]
                have Hcs := Lib.hid hcs
                clear hcs
                obtain ⟨x, hidx, hx0, hx1, hwb, Hxx⟩ := strIdx' Tryz.underlying9 s (k + j) hsz .i64 (e := (k : Int) + (j : Int)) (by omega)
                by_cases g1 : x < 128
                · have e1 : (s[k + j]'hsz).toNat < 128 := by have := Hxx.out; omega
                  have E1 := Lib.hid (Hnone.out (by rw [Hcs.out, if_pos e1]))
                  clear e1
                  go_wp2
                  go_ret2
                  exact ⟨Hbel.out, .inl ⟨E1.out, rfl⟩⟩
                · have e1 : ¬ (s[k + j]'hsz).toNat < 128 := by have := Hxx.out; omega
                  by_cases g2 : 192 ≤ x
                  · have e2 : 192 ≤ (s[k + j]'hsz).toNat := by have := Hxx.out; omega
                    have E1 := Lib.hid (Hnone.out (by rw [Hcs.out, if_neg e1, if_pos e2]))
                    clear e1 e2
                    go_wp2
                    go_ret2
                    exact ⟨Hbel.out, .inl ⟨E1.out, rfl⟩⟩
                  · have e2 : ¬ 192 ≤ (s[k + j]'hsz).toNat := by have := Hxx.out; omega
                    have hcs := Hcs.out
                    rw [if_neg e1, if_neg e2, ← Hxx.out] at hcs
                    have Hc3 := Lib.hid hcs
                    obtain ⟨b1, b2, b3⟩ := bnd_step hj1 (by omega) hcc0 Hcc.out (by omega : (128 : Int) ≤ x) (by omega)
                    have Hb3 := Lib.hid b3
                    clear b3 e1 e2 hcs Hcs
                    go_wp2
                    go_round
                    case rel => exact ⟨j + 1, _, by omega, by omega, by go_num, rfl, by omega, Hb3.out, by omega, Hc3.out⟩
                    case measure => simp [intOf]; omega
              · have hno : contF m c0 (s.data.toList.drop (k + 1)) = none := by
                  have hmj : m + 1 - j = (m - j) + 1 := by omega
                  rw [Hcont.out, List.drop_eq_nil_of_le (by simp; omega), hmj, contF_nil]
                have Hno := Lib.hid hno
                clear hno
                go_wp2
                go_ret2
                exact ⟨Hbel.out, .inl ⟨Hnone.out Hno.out, rfl⟩⟩
            · have hj : j = m + 1 := by omega
              have hyes : contF m c0 (s.data.toList.drop (k + 1)) = some cc := by
                rw [Hcont.out, hj, Nat.sub_self, contF_zero]
              have hks : k + (m + 1) ≤ s.size := by omega
              have Hyes := Lib.hid hyes
              clear hyes hjm hkj hj1
              subst hj
              clear hj2
              go_upto_region 28 with fail
              go_cut [97] (fun t wx => wx = wc ∧ t = .bool (badRune le cc))
              case first =>
                by_cases c1 : cc < le
                · go_wp2_with fail
                  go_meet
                  case rel => exact ⟨rfl, congrArg Value.bool (by simp [badRune, c1])⟩
                · by_cases c2 : 1114111 < cc
                  · go_wp2_with fail
                    go_meet
                    case rel => exact ⟨rfl, congrArg Value.bool (by simp [badRune, c2])⟩
                  · by_cases c3 : 55295 < cc
                    · by_cases c4 : cc < 57344
                      · go_wp2_with fail
                        go_meet
                        case rel => exact ⟨rfl, congrArg Value.bool (by simp [badRune, c3, c4])⟩
                      · go_wp2_with fail
                        go_meet
                        case rel => exact ⟨rfl, congrArg Value.bool (by simp [badRune]; omega)⟩
                    · go_wp2_with fail
                      go_meet
                      case rel => exact ⟨rfl, congrArg Value.bool (by simp [badRune]; omega)⟩
              case rest =>
                obtain ⟨rfl, ht⟩ := hcut
                have Hh2 := Lib.hid (show headF (s[k]'hlt).toNat = some (m, le, c0) by rw [← Hbb.out]; exact Hh.out)
                by_cases hbad : badRune le cc = true
                · have hno := runeF_bad2 Hh2.out Hyes.out hbad
                  have hno2 : runesL s.data.toList = none := by rw [Hj.out, Hdr.out, runesL_bad hno]; rfl
                  have Hno := Lib.hid hno2
                  rw [hbad] at ht
                  subst ht
                  clear hno hno2 hbad
                  go_wp2
                  go_ret2
                  exact ⟨Hbel.out, .inl ⟨Hno.out, rfl⟩⟩
                · have hbad' : badRune le cc = false := by simpa using hbad
                  have hgo := runesL_cons (runeF_good Hh2.out Hyes.out hbad')
                  have hgo2 : runesL s.data.toList = (runesL (s.data.toList.drop (k + (m + 1)))).map ((cs ++ [cc]) ++ ·) := by
                    rw [Hj.out, Hdr.out, hgo, List.drop_succ_cons, List.drop_drop, Option.map_map]
                    rw [show k + 1 + m = k + (m + 1) by omega]
                    congr 1
                    funext z
                    simp
                  have Hgo := Lib.hid hgo2
                  rw [hbad'] at ht
                  subst ht
                  clear hgo hgo2 hbad hbad'
                  go_wp2_with (at_builtin; go_must (refine append_i rfl _ _ rfl _ _ cc ⟨by omega, by omega⟩ _ _ cs rfl Hown.out rfl (by omega) Hbel.out.size ?_))
                  intro v2 w2 hown2 hg2
                  have Hown2 := Lib.hid hown2
                  have Hbel2 := Lib.hid (Hbel.out.grown hg2 Hbel.out.size (fun r hr => Hown.out.base r hr))
                  clear hown2 hg2
                  go_wp2
                  go_roundw
                  case rel => exact ⟨k + (m + 1), cs ++ [cc], by omega, by go_num, Hown2.out, by simp; omega, Hbel2.out, Hgo.out⟩
                  case measure => simp [intOf]; omega
    · have hks : k = s.size := by omega
      have hfin : runesL s.data.toList = some cs := by rw [Hj.out, List.drop_eq_nil_of_le (by simp; omega), runesL_nil]; simp
      have Hfin := Lib.hid hfin
      obtain ⟨p, cap, rfl, hints, _⟩ := Hown.out.ints
      have Hints := Lib.hid hints
      clear hfin hints hks
      go_wp2
      go_ret2
      exact ⟨Hbel.out, .inr ⟨cs, p, cap, Hfin.out, rfl, Hints.out⟩⟩
end Go.Proofs.YtngeooflfkpikaaGreatDoor
