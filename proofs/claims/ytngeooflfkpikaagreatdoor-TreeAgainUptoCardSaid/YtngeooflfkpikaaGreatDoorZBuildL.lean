/-
  lex.reader: number; lex.fnOf.
  strings.Builder in a block of any struct type that is laid out as one: copyCheck, WriteByte, WriteString, String: what they return, and what they leave as it was. (After the library's own proofs for a builder in a block of its own type.)
-/
import Derived.Test.YtngeooflfkpikaaGreatDoorZGo
import Derived.Test.YtngeooflfkpikaaGreatDoorZRead1
import Derived.Lib.SmallJoins
import Derived.Test.YtngeooflfkpikaaGreatDoorZRule
import Derived.Test.YtngeooflfkpikaaGreatDoorProg
import Derived.Lib.FrozenHead2
import Derived.Lib.OthersKept
import Derived.Lib.Builder
import Derived.Shelf.Strings.BuilderK
namespace Go.Proofs.YtngeooflfkpikaaGreatDoor
open Go.RowKit
/-- what is told where a word is wrong -/
abbrev fltV (e at' : Int) : Value := .iface 111 (.agg #[.int .i64 e, .int .i64 at'])
abbrev fltP (e at' : Int) : List PanicEntry := [{ v := fltV e at', recovered := false }]
/-- what lex.Read reads of the library's variables -/
structure LexG (G : Rd) : Prop where
  first : ∀ c : Nat, c < 256 → G ⟨1, c, none⟩ = some (.int .u8 (Lib.firstT c : Int))
  acc : ∀ i : Nat, i < 16 → G ⟨2, 2 * i, none⟩ = some (.int .u8 (Lib.accLo i : Int)) ∧ G ⟨2, 2 * i + 1, none⟩ = some (.int .u8 (Lib.accHi i : Int))
  maxl : ∃ m, G ⟨3, 0, none⟩ = some (.int .i64 m)
  range : ∃ te pe, G ⟨6, 0, none⟩ = some (.iface te pe)
theorem LexG.tabs {G : Rd} (h : LexG G) {w : World} (hl : Rd.le G w.cell?) : Tabs w := ⟨fun c hc => hl _ _ (h.first c hc), fun i hi => ⟨hl _ _ (h.acc i hi).1, hl _ _ (h.acc i hi).2⟩⟩
theorem LexG.maxL {G : Rd} (h : LexG G) {w : World} (hl : Rd.le G w.cell?) : MaxL w := let ⟨m, hm⟩ := h.maxl; ⟨m, hl _ _ hm⟩
theorem digits_int {l : List UInt8} {pos : Nat} : ∀ d ∈ (l.drop pos).takeWhile isDigitB, isDigitB d = true := fun d hd => by
  have key : ∀ l : List UInt8, ∀ b ∈ l.takeWhile isDigitB, isDigitB b = true := by
    intro l
    induction l with
    | nil => intro b h; simp at h
    | cons c l ih =>
      intro b h
      rw [List.takeWhile_cons] at h
      split at h
      · rcases List.mem_cons.1 h with rfl | h
        · assumption
        · exact ih b h
      · cases h
  exact key _ d hd
theorem parse_okI (neg : Bool) {ds : List UInt8} {v : Int} (hne : ds ≠ []) (hd : ∀ d ∈ ds, isDigitB d = true) (h : numF neg ds = some v) (hl : ds.length ≤ 4294967280) (w : World) :
    Calls Tryz.prog 251 #[.string ⟨(if neg = true then 45 :: ds else ds).toArray⟩, .int .i64 10, .int .i64 64] w fun e w' => e = .returned (.tuple #[.int .i64 v, .nilIface]) ∧ Below w.heap.size w w' := by
  have hp := parseInt_num neg hne hd
  rw [h] at hp
  refine (Tryz.strconv_ParseInt_10_at64_ok ⟨(if neg = true then 45 :: ds else ds).toArray⟩ (by cases neg <;> simp [ByteArray.size] <;> omega) v hp w).mono fun e w' ⟨he, hw⟩ => ⟨he, ?_⟩
  rcases hw with rfl | ⟨t, rfl⟩
  · exact Below.refl _ _
  · exact Joins.below_bytesWorld _ _ _ _ (Nat.le_refl _)
theorem parse_range (neg : Bool) {ds : List UInt8} (hne : ds ≠ []) (hd : ∀ d ∈ ds, isDigitB d = true) (h : numF neg ds = none) (hl : ds.length ≤ 4294967280) (w : World) (hr : ∃ te pe, w.cell? ⟨6, 0, none⟩ = some (.iface te pe)) :
    Calls Tryz.prog 251 #[.string ⟨(if neg = true then 45 :: ds else ds).toArray⟩, .int .i64 10, .int .i64 64] w fun e w' => ∃ x : Int × TypeId × Nat, True ∧ e = .returned (.tuple #[.int .i64 x.1, .iface x.2.1 (.pointer (some ⟨x.2.2, 0, none⟩))]) ∧ Holds w [] [] w' := by
  have hp := parseInt_num neg hne hd
  rw [h] at hp
  obtain ⟨te, pe, hc⟩ := hr
  refine (Tryz.strconv_ParseInt_10_at64_range ⟨(if neg = true then 45 :: ds else ds).toArray⟩ (by cases neg <;> simp [ByteArray.size] <;> omega) hp _ w hc (.inr ⟨te, pe, rfl⟩)).mono fun e w' ⟨N, he, _, _, hb⟩ => ?_
  exact ⟨(_, _, N), trivial, he, Keep.ofBelow hb, [], rfl, by simp⟩
set_option maxHeartbeats 1000000 in
set_option maxRecDepth 100000 in
theorem lex_number_ok (b : Nat) (src : List UInt8) (pos : Nat) (ws : Value) (at' : Int) (neg : Bool) (v : Int) (hne : (src.drop pos).takeWhile isDigitB ≠ []) (hv : numF neg ((src.drop pos).takeWhile isDigitB) = some v)
    (G : Rd) (w : World) (fp : List Nat) (hm : Own [rdr b src pos ws] fp w) (hs : Rd.sub G fp w) (hp : pos ≤ src.length) (hl : src.length ≤ 1000) :
    Calls Tryz.prog 200 #[.pointer (some ⟨b, 0, none⟩), .int .i64 at', .bool neg] w fun e w' => e = .returned (.agg (tokE ⟨1, 0, v, [], at'⟩).toArray) ∧ Holds w fp (ro w fp G :: [rdr b src (pos + ((src.drop pos).takeWhile isDigitB).length) ws]) w' := by
  have hdl : ((src.drop pos).takeWhile isDigitB).length ≤ src.length := by have := (List.takeWhile_prefix isDigitB (l := src.drop pos)).length_le; simp at this; omega
  have hD := digits_int (l := src) (pos := pos)
  generalize hds : (src.drop pos).takeWhile isDigitB = ds at hne hv hdl hD ⊢
  have hW := fun W fp' hO hS => lex_while b src pos ws 199 isDigitB lex_digit G W fp' hO hS hp (by omega)
  rw [hds] at hW
  refine enterR (args := [_, _, _]) hs hm Tryz.func200 rfl Tryz.ntmps200 (by simp) ?_
  cases neg with
  | true =>
    (repeat' (first|refine zza ?_|refine zc9 ?_|refine zzb fun w hw => ?_|refine zzh fun _ => ?_|refine zzi fun _ _ => ?_|refine zzj (fun _ => ?_) fun _ => ?_))
    (apply WL_callU1 (h := rdr b src pos ws); (first | exact .here | exact .there .here | exact .there (.there .here) | exact .there (.there (.there .here)) | exact .there (.there (.there (.there .here))) | exact .there (.there (.there (.there (.there .here)))) | exact .there (.there (.there (.there (.there (.there .here)))))); (first | exact .here | exact .there .here | exact .there (.there .here) | exact .there (.there (.there .here)) | exact .there (.there (.there (.there .here))) | exact .there (.there (.there (.there (.there .here)))) | exact .there (.there (.there (.there (.there (.there .here)))))); rfl; rfl; rfl; (intro W fp hO hS; exact hW W fp hO hS))
    (repeat' (first|refine zza ?_|refine zc9 ?_|refine zzb fun w hw => ?_|refine zzh fun _ => ?_|refine zzi fun _ _ => ?_|refine zzj (fun _ => ?_) fun _ => ?_))
    refine CW_seq ?_
    (repeat' (first|refine zza ?_|refine zc9 ?_|refine zzb fun w hw => ?_|refine zzh fun _ => ?_|refine zzi fun _ _ => ?_|refine zzj (fun _ => ?_) fun _ => ?_))
    (apply WL_callV; rfl; rfl; rfl; (intro W hW; exact parse_okI true hne hD hv (by omega) W))
    (repeat' (first|refine zza ?_|refine zc9 ?_|refine zzb fun w hw => ?_|refine zzh fun _ => ?_|refine zzi fun _ _ => ?_|refine zzj (fun _ => ?_) fun _ => ?_))
    refine CW_seq ?_
    (repeat' (first|refine zza ?_|refine zc9 ?_|refine zzb fun w hw => ?_|refine zzh fun _ => ?_|refine zzi fun _ _ => ?_|refine zzj (fun _ => ?_) fun _ => ?_))
    exact ⟨rfl, hw.ent zent⟩
  | false =>
    (repeat' (first|refine zza ?_|refine zc9 ?_|refine zzb fun w hw => ?_|refine zzh fun _ => ?_|refine zzi fun _ _ => ?_|refine zzj (fun _ => ?_) fun _ => ?_))
    (apply WL_callU1 (h := rdr b src pos ws); (first | exact .here | exact .there .here | exact .there (.there .here) | exact .there (.there (.there .here)) | exact .there (.there (.there (.there .here))) | exact .there (.there (.there (.there (.there .here)))) | exact .there (.there (.there (.there (.there (.there .here)))))); (first | exact .here | exact .there .here | exact .there (.there .here) | exact .there (.there (.there .here)) | exact .there (.there (.there (.there .here))) | exact .there (.there (.there (.there (.there .here)))) | exact .there (.there (.there (.there (.there (.there .here)))))); rfl; rfl; rfl; (intro W fp hO hS; exact hW W fp hO hS))
    (repeat' (first|refine zza ?_|refine zc9 ?_|refine zzb fun w hw => ?_|refine zzh fun _ => ?_|refine zzi fun _ _ => ?_|refine zzj (fun _ => ?_) fun _ => ?_))
    refine CW_seq ?_
    (repeat' (first|refine zza ?_|refine zc9 ?_|refine zzb fun w hw => ?_|refine zzh fun _ => ?_|refine zzi fun _ _ => ?_|refine zzj (fun _ => ?_) fun _ => ?_))
    (apply WL_callV; rfl; rfl; rfl; (intro W hW; exact parse_okI false hne hD hv (by omega) W))
    (repeat' (first|refine zza ?_|refine zc9 ?_|refine zzb fun w hw => ?_|refine zzh fun _ => ?_|refine zzi fun _ _ => ?_|refine zzj (fun _ => ?_) fun _ => ?_))
    refine CW_seq ?_
    (repeat' (first|refine zza ?_|refine zc9 ?_|refine zzb fun w hw => ?_|refine zzh fun _ => ?_|refine zzi fun _ _ => ?_|refine zzj (fun _ => ?_) fun _ => ?_))
    exact ⟨rfl, hw.ent zent⟩
set_option maxHeartbeats 1000000 in
set_option maxRecDepth 100000 in
theorem lex_number_bad (b : Nat) (src : List UInt8) (pos : Nat) (ws : Value) (at' : Int) (neg : Bool) (hne : (src.drop pos).takeWhile isDigitB ≠ []) (hv : numF neg ((src.drop pos).takeWhile isDigitB) = none)
    (G : Rd) (hG : LexG G) (w : World) (fp : List Nat) (hm : Own [rdr b src pos ws] fp w) (hs : Rd.sub G fp w) (hp : pos ≤ src.length) (hl : src.length ≤ 1000) :
    Calls Tryz.prog 200 #[.pointer (some ⟨b, 0, none⟩), .int .i64 at', .bool neg] w fun e w' => e = .panicked (fltP 6 at') ∧ Keep w fp w' := by
  have hdl : ((src.drop pos).takeWhile isDigitB).length ≤ src.length := by have := (List.takeWhile_prefix isDigitB (l := src.drop pos)).length_le; simp at this; omega
  have hD := digits_int (l := src) (pos := pos)
  generalize hds : (src.drop pos).takeWhile isDigitB = ds at hne hv hdl hD ⊢
  have hW := fun W fp' hO hS => lex_while b src pos ws 199 isDigitB lex_digit G W fp' hO hS hp (by omega)
  rw [hds] at hW
  have hR : ∀ W : World, Rd.le G W.cell? → ∃ te pe, W.cell? ⟨6, 0, none⟩ = some (.iface te pe) := fun W h => let ⟨te, pe, hc⟩ := hG.range; ⟨te, pe, h _ _ hc⟩
  refine enterR (args := [_, _, _]) hs hm Tryz.func200 rfl Tryz.ntmps200 (by simp) ?_
  cases neg with
  | true =>
    (repeat' (first|refine zza ?_|refine zc9 ?_|refine zzb fun w hw => ?_|refine zzh fun _ => ?_|refine zzi fun _ _ => ?_|refine zzj (fun _ => ?_) fun _ => ?_))
    (apply WL_callU1 (h := rdr b src pos ws); (first | exact .here | exact .there .here | exact .there (.there .here) | exact .there (.there (.there .here)) | exact .there (.there (.there (.there .here))) | exact .there (.there (.there (.there (.there .here)))) | exact .there (.there (.there (.there (.there (.there .here)))))); (first | exact .here | exact .there .here | exact .there (.there .here) | exact .there (.there (.there .here)) | exact .there (.there (.there (.there .here))) | exact .there (.there (.there (.there (.there .here)))) | exact .there (.there (.there (.there (.there (.there .here)))))); rfl; rfl; rfl; (intro W fp hO hS; exact hW W fp hO hS))
    (repeat' (first|refine zza ?_|refine zc9 ?_|refine zzb fun w hw => ?_|refine zzh fun _ => ?_|refine zzi fun _ _ => ?_|refine zzj (fun _ => ?_) fun _ => ?_))
    refine CW_seq ?_
    (repeat' (first|refine zza ?_|refine zc9 ?_|refine zzb fun w hw => ?_|refine zzh fun _ => ?_|refine zzi fun _ _ => ?_|refine zzj (fun _ => ?_) fun _ => ?_))
    (apply WL_callX; rfl; rfl; rfl; (intro W hW; exact parse_range true hne hD hv (by omega) W (hR W (hW.le .here))); intro _ _)
    (repeat' (first|refine zza ?_|refine zc9 ?_|refine zzb fun w hw => ?_|refine zzh fun _ => ?_|refine zzi fun _ _ => ?_|refine zzj (fun _ => ?_) fun _ => ?_))
    refine CW_seq ?_
    (repeat' (first|refine zza ?_|refine zc9 ?_|refine zzb fun w hw => ?_|refine zzh fun _ => ?_|refine zzi fun _ _ => ?_|refine zzj (fun _ => ?_) fun _ => ?_))
    exact ⟨rfl, hw.keep⟩
  | false =>
    (repeat' (first|refine zza ?_|refine zc9 ?_|refine zzb fun w hw => ?_|refine zzh fun _ => ?_|refine zzi fun _ _ => ?_|refine zzj (fun _ => ?_) fun _ => ?_))
    (apply WL_callU1 (h := rdr b src pos ws); (first | exact .here | exact .there .here | exact .there (.there .here) | exact .there (.there (.there .here)) | exact .there (.there (.there (.there .here))) | exact .there (.there (.there (.there (.there .here)))) | exact .there (.there (.there (.there (.there (.there .here)))))); (first | exact .here | exact .there .here | exact .there (.there .here) | exact .there (.there (.there .here)) | exact .there (.there (.there (.there .here))) | exact .there (.there (.there (.there (.there .here)))) | exact .there (.there (.there (.there (.there (.there .here)))))); rfl; rfl; rfl; (intro W fp hO hS; exact hW W fp hO hS))
    (repeat' (first|refine zza ?_|refine zc9 ?_|refine zzb fun w hw => ?_|refine zzh fun _ => ?_|refine zzi fun _ _ => ?_|refine zzj (fun _ => ?_) fun _ => ?_))
    refine CW_seq ?_
    (repeat' (first|refine zza ?_|refine zc9 ?_|refine zzb fun w hw => ?_|refine zzh fun _ => ?_|refine zzi fun _ _ => ?_|refine zzj (fun _ => ?_) fun _ => ?_))
    (apply WL_callX; rfl; rfl; rfl; (intro W hW; exact parse_range false hne hD hv (by omega) W (hR W (hW.le .here))); intro _ _)
    (repeat' (first|refine zza ?_|refine zc9 ?_|refine zzb fun w hw => ?_|refine zzh fun _ => ?_|refine zzi fun _ _ => ?_|refine zzj (fun _ => ?_) fun _ => ?_))
    refine CW_seq ?_
    (repeat' (first|refine zza ?_|refine zc9 ?_|refine zzb fun w hw => ?_|refine zzh fun _ => ?_|refine zzi fun _ _ => ?_|refine zzj (fun _ => ?_) fun _ => ?_))
    exact ⟨rfl, hw.keep⟩
end Go.Proofs.YtngeooflfkpikaaGreatDoor
namespace Go.Proofs.YtngeooflfkpikaaGreatDoor
open Go.RowKit
theorem sizeBuilder : (Tryz.prog.info? 187).map (·.size) = some 2 := by kernel_rfl
theorem infoByte : (Tryz.prog.info? 5).map (fun i => (i.zero, i.size, i.bytes)) = some (some (.int .u8 0), 1, 1) := by kernel_rfl
theorem cellsByte : Tryz.prog.cellsOf 5 = 1 := by kernel_rfl
theorem noEscape_run (x : Value) (w : World) : (callFunc 248 #[x]).run Tryz.prog w = .ok (.value x) w := by
  rw [run_callFunc_extern Tryz.func248 (by kernel_rfl) (by kernel_rfl) (by kernel_rfl) (e := Extern.AbiNoEscape.same) (by kernel_rfl)]
  rw [Lib.run_noEscape]
  rfl
/-- what a block's type T must be: laid out as a Builder; no byte -/
structure Lies (T : TypeId) : Prop where
  lies : liesAt Tryz.prog Tryz.prog.depth T (2 / Tryz.prog.cellsOf T) 0 187 1 = true
  ne : T ≠ 5
set_option maxHeartbeats 1000000 in
set_option maxRecDepth 100000 in
theorem bld_copyCheck_used (b : Nat) (w : World) (h0 : w.cell? ⟨b, 0, none⟩ = some (.pointer (some ⟨b, 0, none⟩))) :
    Calls Tryz.prog 195 #[.pointer (some ⟨b, 0, none⟩)] w fun e w' => e = .returned (.tuple #[]) ∧ w' = w := by
  obtain ⟨j, hj, _⟩ := Option.map_eq_some_iff.1 sizeBuilder
  go_enter Tryz.func195, Tryz.ntmps195
  go_wp2
  rw [Lib.run_neq_ptr_same w _ Tryz.underlying184 hj]
  go_wp2
  go_end0
  exact ⟨rfl, rfl⟩
set_option maxHeartbeats 1000000 in
set_option maxRecDepth 100000 in
theorem bld_copyCheck_fresh (T : TypeId) (L : Lies T) (b : Nat) (w : World) (h0 : w.cell? ⟨b, 0, none⟩ = some (.pointer none)) (hsh : w.shape? b = some (T, 2)) (hfz : w.frozen? ⟨b, 0, none⟩ = false) :
    Calls Tryz.prog 195 #[.pointer (some ⟨b, 0, none⟩)] w fun e w' => e = .returned (.tuple #[]) ∧ w' = w.setCell ⟨b, 0, none⟩ (.pointer (some ⟨b, 0, none⟩)) := by
  obtain ⟨j, hj, hjs⟩ := Option.map_eq_some_iff.1 sizeBuilder
  go_enter Tryz.func195, Tryz.ntmps195
  go_wp2
  rw [Lib.run_to_unsafe w ⟨b, 0, none⟩ Tryz.underlying184 Tryz.underlying246 hj (by rw [hjs]; decide) hsh (Nat.zero_lt_succ 1)]
  simp only [Result.andThen]
  rw [Oper.upon_value]
  go_wp2
  rw [noEscape_run]
  rw [Oper.upon_value]
  go_wp2
  rw [Lib.run_from_unsafe w ⟨b, 0, none⟩ Tryz.underlying246 Tryz.underlying184 hj hsh L.lies]
  simp only [Result.andThen]
  rw [Oper.upon_value]
  go_wp2
  go_end0
  exact ⟨rfl, rfl⟩
end Go.Proofs.YtngeooflfkpikaaGreatDoor
