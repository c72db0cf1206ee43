/-
  errors.As at a target of type *Errno: of nil false; of an Errno true, and the target holds it (after the worked proof of a pointer's).
  plain.Told and ravelinsame.Error: of an error that is nil or an Errno, its number.
  What the rows' lists give: the handle.
-/
import Derived.Test.YtllgkdkjcbohcaaGreatDoorZRule
import Derived.Test.YtllgkdkjcbohcaaGreatDoorProg
import Derived.WalkKit
import Derived.LaidEql
import Derived.Stop.Asserts
import Derived.RowKitTokens
import Derived.Test.YtllgkdkjcbohcaaGreatDoorRows
import Derived.LaidHandle
import Derived.Lib.LaidTab
import Derived.Lib.LaidU8T
import Derived.PinnedBridge
namespace Go.Proofs.YtllgkdkjcbohcaaGreatDoor
open Go.RowKit Go.Extern.Stop Go.Stop Go.Extern
/-! closed facts of the model at this program -/
theorem as_valueOf27 (t : Addr) (w : World) : (ReflectliteValue.unpack (.iface 185 (.pointer (some t)))).run Tryz.prog w
    = .ok (.agg #[.pointer (some ⟨7, 185, none⟩), .pointer (some ⟨w.heap.size, 0, none⟩), .int .u64 150]) (w.alloc (.cells #[.pointer (some t)] 185)) := by kernel_rfl
theorem as_type27 (a : Addr) (w : World) : (ReflectliteValue.methodAny (ReflectliteValue.valueError "reflectlite.Value.Type" 0) (fun t _ _ _ => ReflectliteType.toType t) #[.agg #[.pointer (some ⟨7, 185, none⟩), .pointer (some a), .int .u64 150]]).run Tryz.prog w
    = .ok (.iface 317 (.agg #[.pointer (some ⟨7, 185, none⟩)])) w := by kernel_rfl
theorem as_methodKind (h : Value) (w : World) : (Go.method 495 317 (.agg #[h]) "Kind").run Tryz.prog w = .ok (304, h) w := by kernel_rfl
theorem as_kind27 (w : World) : ((ReflectliteType.abiMethod fun t => (fun a : Nat => Value.int IntKind.u8 (a : Int)) <$> Rtype.kind t) #[.pointer (some ⟨7, 185, none⟩)]).run Tryz.prog w = .ok (.int .u8 22) w := by kernel_rfl
theorem as_kind25 (w : World) : ((ReflectliteType.abiMethod fun t => (fun a : Nat => Value.int IntKind.u8 (a : Int)) <$> Rtype.kind t) #[.pointer (some ⟨7, 49, none⟩)]).run Tryz.prog w = .ok (.int .u8 2) w := by kernel_rfl
/-! the entries that read or write memory -/
theorem rlm (z : Sem Value) (f : TypeId → Addr → Nat → Nat → Sem Value) (v : Value) :
    ReflectliteValue.method z f #[v] = (do match ← ReflectliteValue.parts v with | none => z | some (t, a, fl) => f t a fl (fl % 32)) := rfl
theorem as_parts27 (a : Addr) (w : World) : (ReflectliteValue.parts (.agg #[.pointer (some ⟨7, 185, none⟩), .pointer (some a), .int .u64 150])).run Tryz.prog w = .ok (some (185, a, 150)) w := by kernel_rfl
/-- (Value).IsNil at the Value of a **p.E that is not nil. -/
theorem as_isNil27 (a p : Addr) (W : World) (ha : W.cell? a = some (.pointer (some p))) :
    (ReflectliteValue.method (ReflectliteValue.valueError "reflectlite.Value.IsNil" 0) ReflectliteValue.isNil #[.agg #[.pointer (some ⟨7, 185, none⟩), .pointer (some a), .int .u64 150]]).run Tryz.prog W = .ok (.bool false) W := by
  rw [rlm]
  simp only [Sem.run_bind, as_parts27, Result.andThen]
  simp [ReflectliteValue.isNil, loadVar, isAgg, underlying, Tryz.underlying185, ha, Result.andThen]
theorem as_methodElem (h : Value) (w : World) : (Go.method 495 317 (.agg #[h]) "Elem").run Tryz.prog w = .ok (324, .agg #[h]) w := by kernel_rfl
theorem as_methodImplements (h : Value) (w : World) : (Go.method 495 317 (.agg #[h]) "Implements").run Tryz.prog w = .ok (325, .agg #[h]) w := by kernel_rfl
theorem as_methodAssignableTo (h : Value) (w : World) : (Go.method 495 317 (.agg #[h]) "AssignableTo").run Tryz.prog w = .ok (322, .agg #[h]) w := by kernel_rfl
theorem as_elem27 (w : World) : (ReflectliteType.method ReflectliteType.elem #[.agg #[.pointer (some ⟨7, 185, none⟩)]]).run Tryz.prog w = .ok (.iface 317 (.agg #[.pointer (some ⟨7, 49, none⟩)])) w := by kernel_rfl
theorem as_implements25 (w : World) : (ReflectliteType.relation "Implements" ReflectliteType.implements_ #[.agg #[.pointer (some ⟨7, 49, none⟩)], .iface 317 (.agg #[.pointer (some ⟨7, 24, none⟩)])]).run Tryz.prog w = .ok (.bool true) w := by kernel_rfl
theorem as_typeOf25 (v : Value) (w : World) : (ReflectliteType.typeOf #[.iface 49 v]).run Tryz.prog w = .ok (.iface 317 (.agg #[.pointer (some ⟨7, 49, none⟩)])) w := by kernel_rfl
theorem as_assignable25 (w : World) : (ReflectliteType.relation "AssignableTo" ReflectliteType.assignableTo #[.agg #[.pointer (some ⟨7, 49, none⟩)], .iface 317 (.agg #[.pointer (some ⟨7, 49, none⟩)])]).run Tryz.prog w = .ok (.bool true) w := by kernel_rfl
theorem as_valueOf25 (e : Int) (w : World) : (ReflectliteValue.unpack (.iface 49 (.int .i64 e))).run Tryz.prog w
    = .ok (.agg #[.pointer (some ⟨7, 49, none⟩), .pointer (some ⟨w.heap.size, 0, none⟩), .int .u64 130]) (w.alloc (.cells #[.int .i64 e] 49)) := by kernel_rfl
theorem as_elemOf27 (w : World) : (Rtype.elem? 185).run Tryz.prog w = .ok (some 49) w := by kernel_rfl
theorem as_mk25 (p : Addr) (w : World) : (ReflectliteValue.mk 49 p ReflectliteValue.flagAddr).run Tryz.prog w = .ok (.agg #[.pointer (some ⟨7, 49, none⟩), .pointer (some p), .int .u64 386]) w := by kernel_rfl
/-- (Value).Elem at the Value of a **p.E that is not nil: the Value of the *p.E variable that it points to, addressable. -/
theorem as_elemV27 (a p : Addr) (W : World) (ha : W.cell? a = some (.pointer (some p))) :
    (ReflectliteValue.method (ReflectliteValue.valueError "reflectlite.Value.Elem" 0) ReflectliteValue.elem #[.agg #[.pointer (some ⟨7, 185, none⟩), .pointer (some a), .int .u64 150]]).run Tryz.prog W
      = .ok (.agg #[.pointer (some ⟨7, 49, none⟩), .pointer (some p), .int .u64 386]) W := by
  rw [rlm]
  simp only [Sem.run_bind, as_parts27, Result.andThen]
  simp [ReflectliteValue.elem, loadVar, isAgg, underlying, Tryz.underlying185, ha, Result.andThen, as_elemOf27, as_mk25]
theorem rls (v x : Value) : ReflectliteValue.set #[v, x] = (do
    let (some (dst, a, fl), some (src, b, _)) := (← ReflectliteValue.parts v, ← ReflectliteValue.parts x)
      | unsupported (.noEntry "extern/(internal/reflectlite.Value).Set.zeroValue")
    if fl / ReflectliteValue.flagAddr % 2 == 0 then unsupported (.noEntry "extern/(internal/reflectlite.Value).Set.unaddressable")
    let val ← loadVar src b
    if ← Rtype.directlyAssignable dst src then storeVar dst a val
    else if ← Rtype.implements dst src then
      if (← Rtype.kind src) == 20 then
        match val with
        | .nilIface => unsupported (.noEntry "extern/reflectlite: a nil value of one interface type handed on as a value of another")
        | _ => storeVar dst a val
      else storeVar dst a (.iface src val)
    else panicString ("reflectlite.Set: value of type " ++ (← Rtype.spelt src) ++ " is not assignable to type " ++ (← Rtype.spelt dst))
    pure (.tuple #[])) := rfl
theorem as_parts25a (a : Addr) (w : World) : (ReflectliteValue.parts (.agg #[.pointer (some ⟨7, 49, none⟩), .pointer (some a), .int .u64 386])).run Tryz.prog w = .ok (some (49, a, 386)) w := by kernel_rfl
theorem as_parts25 (a : Addr) (w : World) : (ReflectliteValue.parts (.agg #[.pointer (some ⟨7, 49, none⟩), .pointer (some a), .int .u64 130])).run Tryz.prog w = .ok (some (49, a, 130)) w := by kernel_rfl
theorem as_direct25 (w : World) : (Rtype.directlyAssignable 49 49).run Tryz.prog w = .ok true w := by kernel_rfl
/-- (Value).Set: the *p.E variable at 'ta' gets what the Value's own variable 'b' holds. -/
theorem as_set25 (ta b : Addr) (e : Int) (old : Value) (W : World) (hb : W.cell? b = some (.int .i64 e)) (ht : W.cell? ta = some old) (hf : W.frozen? ta = false) :
    (ReflectliteValue.set #[.agg #[.pointer (some ⟨7, 49, none⟩), .pointer (some ta), .int .u64 386], .agg #[.pointer (some ⟨7, 49, none⟩), .pointer (some b), .int .u64 130]]).run Tryz.prog W
      = .ok (.tuple #[]) (W.setCell ta (.int .i64 e)) := by
  rw [rls]
  simp only [Sem.run_bind, as_parts25a, as_parts25, Result.andThen]
  simp [ReflectliteValue.flagAddr, loadVar, isAgg, underlying, Tryz.underlying49, hb, Result.andThen, as_direct25, storeVar, Value.cells, storeCells, Addr.add]
  rw [run_store Tryz.prog W ta _ _ (by rfl)]
  simp [ht, hf]
set_option maxHeartbeats 4000000 in
theorem as_hit (e : Int) (t : Addr) (old : Value) (w : World) (hg : w.cell? ⟨0, 0, none⟩ = some (.iface 317 (.agg #[.pointer (some ⟨7, 24, none⟩)]))) (ht0 : w.cell? t = some old) (hf0 : w.frozen? t = false) :
    Calls Tryz.prog 113 #[.iface 49 (.int .i64 e), .iface 185 (.pointer (some t))] w fun ev w' => ev = .returned (.bool true) ∧ w' = ((((w.alloc (.cells #[.pointer (some t)] 185)).alloc (.cells #[.pointer (some ⟨7, 185, none⟩), .pointer (some ⟨w.heap.size, 0, none⟩), .int .u64 150] 270)).alloc (.cells #[.pointer (some ⟨7, 185, none⟩), .pointer (some ⟨w.heap.size, 0, none⟩), .int .u64 150] 270)).alloc (.cells #[.int .i64 e] 49)).setCell t (.int .i64 e) := by
  have h6 := @run_callFunc_extern Tryz.prog 188 _ (fun args => ReflectliteValue.unpack (args.getD 0 (.tuple #[]))) Tryz.func188 (by kernel_rfl) (by kernel_rfl) (by kernel_rfl) (by kernel_rfl)
  have h7 := @run_callFunc_extern Tryz.prog 189 _ (ReflectliteValue.methodAny (ReflectliteValue.valueError "reflectlite.Value.Type" 0) (fun t _ _ _ => ReflectliteType.toType t)) Tryz.func189 (by kernel_rfl) (by kernel_rfl) (by kernel_rfl) (by kernel_rfl)
  have h8 := @run_callFunc_extern Tryz.prog 190 _ (ReflectliteValue.method (ReflectliteValue.valueError "reflectlite.Value.IsNil" 0) ReflectliteValue.isNil) Tryz.func190 (by kernel_rfl) (by kernel_rfl) (by kernel_rfl) (by kernel_rfl)
  have h27 := @run_callFunc_extern Tryz.prog 304 _ (ReflectliteType.abiMethod fun t => do pure (.int .u8 (← Rtype.kind t))) Tryz.func304 (by kernel_rfl) (by kernel_rfl) (by kernel_rfl) (by kernel_rfl)
  have h37 := @run_callFunc_extern Tryz.prog 324 _ (ReflectliteType.method ReflectliteType.elem) Tryz.func324 (by kernel_rfl) (by kernel_rfl) (by kernel_rfl) (by kernel_rfl)
  have h38 := @run_callFunc_extern Tryz.prog 325 _ (ReflectliteType.relation "Implements" ReflectliteType.implements_) Tryz.func325 (by kernel_rfl) (by kernel_rfl) (by kernel_rfl) (by kernel_rfl)
  have h10 := @run_callFunc_extern Tryz.prog 241 _ ReflectliteType.typeOf Tryz.func241 (by kernel_rfl) (by kernel_rfl) (by kernel_rfl) (by kernel_rfl)
  have h35 := @run_callFunc_extern Tryz.prog 322 _ (ReflectliteType.relation "AssignableTo" ReflectliteType.assignableTo) Tryz.func322 (by kernel_rfl) (by kernel_rfl) (by kernel_rfl) (by kernel_rfl)
  have h11 := @run_callFunc_extern Tryz.prog 242 _ (ReflectliteValue.method (ReflectliteValue.valueError "reflectlite.Value.Elem" 0) ReflectliteValue.elem) Tryz.func242 (by kernel_rfl) (by kernel_rfl) (by kernel_rfl) (by kernel_rfl)
  have h12 := @run_callFunc_extern Tryz.prog 243 _ ReflectliteValue.set Tryz.func243 (by kernel_rfl) (by kernel_rfl) (by kernel_rfl) (by kernel_rfl)
  have tO := as_typeOf25
  have mA := as_methodAssignableTo
  have a25 := as_assignable25
  have v25 := as_valueOf25
  have f6 := as_valueOf27
  have f7 := as_type27
  have mK := as_methodKind
  have mE := as_methodElem
  have mI := as_methodImplements
  have k27 := as_kind27
  have k25 := as_kind25
  have e27 := as_elem27
  have i25 := as_implements25
  have n8 := as_isNil27 ⟨w.heap.size, 0, none⟩ t ((w.alloc (.cells #[.pointer (some t)] 185)).alloc (.cells #[.pointer (some ⟨7, 185, none⟩), .pointer (some ⟨w.heap.size, 0, none⟩), .int .u64 150] 270)) (by simp)
  have hlt : 0 < w.heap.size := by
    rcases Nat.eq_zero_or_pos w.heap.size with h0 | h
    · simp [World.cell?, h0] at hg
    · exact h
  have hg2 : ((w.alloc (.cells #[.pointer (some t)] 185)).alloc (.cells #[.pointer (some ⟨7, 185, none⟩), .pointer (some ⟨w.heap.size, 0, none⟩), .int .u64 150] 270)).cell? ⟨0, 0, none⟩ = some (.iface 317 (.agg #[.pointer (some ⟨7, 24, none⟩)])) := by
    rw [World.cell?_alloc_lt _ _ ⟨0, 0, none⟩ (by simp), World.cell?_alloc_lt _ _ ⟨0, 0, none⟩ hlt]; exact hg
  have htl : t.block < w.heap.size := by
    rcases Nat.lt_or_ge t.block w.heap.size with h | h
    · exact h
    · simp [World.cell?, Array.getElem?_eq_none h] at ht0
  have el := as_elemV27 ⟨w.heap.size, 0, none⟩ t (((w.alloc (.cells #[.pointer (some t)] 185)).alloc (.cells #[.pointer (some ⟨7, 185, none⟩), .pointer (some ⟨w.heap.size, 0, none⟩), .int .u64 150] 270)).alloc (.cells #[.pointer (some ⟨7, 185, none⟩), .pointer (some ⟨w.heap.size, 0, none⟩), .int .u64 150] 270)) (by rw [World.cell?_alloc_lt _ _ ⟨w.heap.size, 0, none⟩ (by simp; omega)]; simp)
  have st := as_set25 t ⟨w.heap.size + 1 + 1 + 1, 0, none⟩ e old ((((w.alloc (.cells #[.pointer (some t)] 185)).alloc (.cells #[.pointer (some ⟨7, 185, none⟩), .pointer (some ⟨w.heap.size, 0, none⟩), .int .u64 150] 270)).alloc (.cells #[.pointer (some ⟨7, 185, none⟩), .pointer (some ⟨w.heap.size, 0, none⟩), .int .u64 150] 270)).alloc (.cells #[.int .i64 e] 49))
    (by rw [World.cell?_alloc_at _ _ _ _ (by simp)]; rfl)
    (by rw [World.cell?_alloc_lt _ _ t (by simp; omega), World.cell?_alloc_lt _ _ t (by simp; omega), World.cell?_alloc_lt _ _ t (by simp; omega), World.cell?_alloc_lt _ _ t htl]; exact ht0)
    (by rw [World.frozen?_alloc_old _ _ t (by simp; omega), World.frozen?_alloc_old _ _ t (by simp; omega), World.frozen?_alloc_old _ _ t (by simp; omega), World.frozen?_alloc_old _ _ t (Nat.ne_of_lt htl)]; exact hf0)
  go_enter Tryz.func113, Tryz.ntmps113
  go_wp2
  refine wp_loop_rounds 1 ?_
  rw [rounds_succ]
  go_wp2
  go_ret
  exact ⟨rfl, rfl⟩
end Go.Proofs.YtllgkdkjcbohcaaGreatDoor
namespace Go.Proofs.YtllgkdkjcbohcaaGreatDoor
open Go.RowKit
/-- errors.errorType's cell -/
def Handle (w : World) : Prop := w.cell? ⟨0, 0, none⟩ = some (.iface 317 (.agg #[.pointer (some ⟨7, 24, none⟩)]))
theorem Handle.lt {w : World} (h : Handle w) : 0 < w.heap.size := by
  unfold Handle World.cell? at h
  rcases Nat.lt_or_ge 0 w.heap.size with h' | h'
  · exact h'
  · rw [Array.getElem?_eq_none h'] at h; simp at h
theorem Handle.below {w w' : World} (h : Handle w) (hb : Below w.heap.size w w') : Handle w' := by
  unfold Handle
  rw [hb.cell h.lt]; exact h
theorem told_zero (w : World) : Calls Tryz.prog 60 #[.nilIface] w fun r w' => r = .returned (.int .i64 0) ∧ w' = w := by
  go_enter Tryz.func60, Tryz.ntmps60
  go_wp2
  go_ret
  exact ⟨rfl, rfl⟩
set_option maxHeartbeats 4000000 in
theorem told_errno (e : Int) (w : World) (hg : Handle w) : Calls Tryz.prog 60 #[.iface 49 (.int .i64 e)] w fun r w' => r = .returned (.int .i64 e) ∧ Below w.heap.size w w' := by
  have hH : Handle (w.alloc (.cells #[.int .i64 0] 49)) := hg.below ((Below.refl _ _).alloc (Nat.le_refl _) _)
  have ht : (w.alloc (.cells #[.int .i64 0] 49)).cell? ⟨w.heap.size, 0, none⟩ = some (.int .i64 0) := by simp
  have hf : (w.alloc (.cells #[.int .i64 0] 49)).frozen? ⟨w.heap.size, 0, none⟩ = false := by simp
  go_enter Tryz.func60, Tryz.ntmps60
  go_wp2_with (go_at_call 113; refine (as_hit e _ (.int .i64 0) _ hH ht hf).mono ?_; rintro r w' ⟨rfl, rfl⟩)
  go_ret
  refine ⟨rfl, ?_⟩
  exact ((((Below.refl _ _).alloc (Nat.le_refl _) _).alloc (by simp) _).alloc (by simp; omega) _ |>.alloc (by simp; omega) _ |>.alloc (by simp; omega) _)
theorem plain_Told (e : Int) (w : World) (hg : Handle w) : Calls Tryz.prog 60 #[errV 49 e] w fun r w' => r = .returned (.int .i64 e) ∧ Below w.heap.size w w' := by
  by_cases he : e = 0
  · subst he
    rw [errV_zero]
    refine (told_zero w).mono ?_
    rintro r w' ⟨rfl, rfl⟩
    exact ⟨rfl, Below.refl _ _⟩
  · rw [errV_ne he]
    exact told_errno e w hg
set_option maxHeartbeats 400000 in
theorem same_Error (e f : Int) (w : World) (hg : Handle w) : Calls Tryz.prog 33 #[errV 49 e, .int .i64 f] w fun r w' => r = .returned (.bool (decide (e = f))) ∧ Below w.heap.size w w' := by
  have hT := plain_Told e w hg
  obtain ⟨v, hv⟩ : ∃ v, v = errV 49 e := ⟨_, rfl⟩
  rw [← hv] at hT ⊢
  clear hv hg
  go_enter Tryz.func33, Tryz.ntmps33
  go_wp2_with (go_at_call 60; refine hT.mono ?_; rintro r w' ⟨rfl, hb⟩)
  go_ret
  exact ⟨ret_bool (by by_cases h : e = f <;> simp [h]), hb⟩
end Go.Proofs.YtllgkdkjcbohcaaGreatDoor
namespace Go.Proofs.YtllgkdkjcbohcaaGreatDoor
open Go.RowKit Go.Lib
theorem rt : (Tryz.prog.cutTypes.find? (·.1 == "internal/reflectlite.rtype")).map (·.2) = some 317 := by kernel_rfl
theorem et : Tryz.prog.globalNamed "errors.errorType" = some 0 := by kernel_rfl
theorem oneRow : ((List.range Tryz.prog.types.size).filter fun t => Tryz.prog.rowNamed t [101, 114, 114, 111, 114]) = [24] := by kernel_rfl
theorem handle_of_met {W : World} (h : handlesMet Tryz.prog [("errors.errorType", Rows.laid_errors_errorType)] W) : Handle W := by
  obtain ⟨name, u, ty, e1, e2, e3, e4, e5⟩ := h _ (List.mem_singleton.2 rfl)
  have en : name = [101, 114, 114, 111, 114] := (Option.some.inj e1).symm
  subst en
  obtain rfl := Option.some.inj (rt.symm.trans e2)
  have hm : ty ∈ (List.range Tryz.prog.types.size).filter fun t => Tryz.prog.rowNamed t [101, 114, 114, 111, 114] := List.mem_filter.2 ⟨List.mem_range.2 e3, e4⟩
  rw [oneRow] at hm
  obtain rfl := List.mem_singleton.1 hm
  have hh : typeHandle Tryz.prog 24 = .pointer (some ⟨7, 24, none⟩) := by kernel_rfl
  rw [hh] at e5
  have := World.var?_cell et e5 0
  unfold Handle
  simpa using this
theorem bulk_bound {H : Type} {l : List (DataW H)} (hk : Rows.uptoSmall H l = true) : Rows.uptoBulkAll l ≤ 1048576 := of_decide_eq_true hk
end Go.Proofs.YtllgkdkjcbohcaaGreatDoor
