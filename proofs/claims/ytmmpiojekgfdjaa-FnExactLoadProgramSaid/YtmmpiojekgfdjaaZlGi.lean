/- errors.Is over the faults. -/
import Derived.Test.YtmmpiojekgfdjaaZlG1
import Derived.LaidEql
import Derived.Stop.Asserts
import Derived.RowKitTokens
import Derived.Test.YtmmpiojekgfdjaaZlK
namespace Go.Proofs.Ytmmpiojekgfdjaa.C
open Go.RowKit YtmmpiojekgfdjaaW.PrintWords YtmmpiojekgfdjaaW.PrintLast
set_option linter.unusedVariables false
set_option linter.unusedSimpArgs false
section
open Go.Extern.Stop Go.Stop Go.Extern
theorem is_typeOf (v : Value) (w : World) : (Extern.ReflectliteType.typeOf #[.iface 96 v]).run Try.prog w = .ok (.iface 151 (.agg #[.pointer (some ⟨0, 96, none⟩)])) w := by kernel_rfl
theorem is_comparable (w : World) : ((Extern.ReflectliteType.method fun t => do Extern.Rtype.noPackHeld "Comparable" t; (fun a => Value.bool a.comparable) <$> typeInfo t) #[.agg #[.pointer (some ⟨0, 96, none⟩)]]).run Try.prog w = .ok (.bool true) w := by kernel_rfl
theorem is_method (v : Value) (w : World) : (Go.method 300 151 v "Comparable").run Try.prog w = .ok (116, v) w := by kernel_rfl
theorem is_noIs (v : Value) (xT : TypeId) (w : World) : (Instr.typeAssert (.iface 96 v) xT 153 true).run Try.prog w = .ok (.tuple #[.nilIface, .bool false]) w := run_typeAssert_lacksB Try.underlying153 (by kernel_rfl) (by kernel_rfl) v xT w
theorem is_noUnwrap (v : Value) (xT : TypeId) (w : World) : (Instr.typeAssert (.iface 96 v) xT 156 true).run Try.prog w = .ok (.tuple #[.nilIface, .bool false]) w := run_typeAssert_lacksB Try.underlying156 (by kernel_rfl) (by kernel_rfl) v xT w
theorem is_noUnwraps (v : Value) (xT : TypeId) (w : World) : (Instr.typeAssert (.iface 96 v) xT 158 true).run Try.prog w = .ok (.tuple #[.nilIface, .bool false]) w := run_typeAssert_lacksB Try.underlying158 (by kernel_rfl) (by kernel_rfl) v xT w
theorem is_eq {P : Program} (w : World) {t tx : TypeId} {ms : Array (String × TypeId)} (a b : ByteArray)
  (ht : P.underlying t = some (.interface ms)) (hc : (P.info? tx).map (·.comparable) = some true) (hx : P.underlying tx = some .string) :
  (binOp .eql t (.iface tx (.string a)) (.iface tx (.string b))).run P w = .ok (.bool (a == b)) w := by
 cases hi : P.info? tx with
 | none => simp [hi] at hc
 | some i =>
  have hcc : i.comparable = true := by simpa [hi] using hc
  have h : ∀ d : Nat, (Op.equalIn (d + 2) t (.iface tx (.string a)) (.iface tx (.string b))).run P w = .ok (a == b) w := fun d => by
   simp [Op.equalIn, run_underlying ht, run_underlying hx, typeInfo, hi, hcc]
  simp only [binOp]
  simp [Op.equal, Op.maxDepth, h 9998]
set_option maxHeartbeats 4000000 in
set_option maxRecDepth 100000 in
theorem is_calls (a b : ByteArray) (w : World) : Calls Try.prog 53 #[.iface 96 (.string a), .iface 96 (.string b)] w fun e w' => e = .returned (.bool (a == b)) ∧ w = w' := by
 have h84 := @run_callFunc_extern Try.prog 84 _ Extern.ReflectliteType.typeOf Try.func84 (by kernel_rfl) (by kernel_rfl) (by kernel_rfl) (by kernel_rfl)
 have h116 := @run_callFunc_extern Try.prog 116 _ (Extern.ReflectliteType.method fun t => do Extern.Rtype.noPackHeld "Comparable" t; pure (.bool (← typeInfo t).comparable)) Try.func116 (by kernel_rfl) (by kernel_rfl) (by kernel_rfl) (by kernel_rfl)
 have tT := is_typeOf
 have cT := is_comparable
 have mR := is_method
 have nE := is_noIs
 have uE := is_noUnwrap
 have vE := is_noUnwraps
 have heq := is_eq (P := Try.prog) w a b Try.underlying91 (tx := 96) (by kernel_rfl) Try.underlying96
 cases hab : (a == b) with
 | true =>
  rw [hab] at heq
  go_enter Try.func53, Try.ntmps53
  go_wp2
  refine wp_loop_rounds 1 ?_
  rw [rounds_succ]
  go_wp2
  go_ret
  exact ⟨rfl, rfl⟩
 | false =>
  rw [hab] at heq
  go_enter Try.func53, Try.ntmps53
  go_wp2
  refine wp_loop_rounds 1 ?_
  rw [rounds_succ]
  go_wp2
  go_ret
  exact ⟨rfl, rfl⟩
set_option maxRecDepth 100000 in
theorem is_nil (b : ByteArray) (w : World) : Calls Try.prog 53 #[.nilIface, .iface 96 (.string b)] w fun e w' => e = .returned (.bool false) ∧ w = w' := by
 have hn := run_eql_iface_nil_left (P := Try.prog) w 96 (.string b) Try.underlying91
 go_enter Try.func53, Try.ntmps53
 go_wp2
 go_ret
 exact ⟨rfl, rfl⟩
end
end Go.Proofs.Ytmmpiojekgfdjaa.C
