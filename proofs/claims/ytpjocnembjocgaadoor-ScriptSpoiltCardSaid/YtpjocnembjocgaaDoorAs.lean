/- Type assertions of steps; calls of their methods through an interface. -/
import Derived.Test.YtpjocnembjocgaaDoorProg
import Derived.WalkKit
import Derived.KernelRfl
import Derived.Stop.Asserts
namespace Go.Proofs.YtpjocnembjocgaaDoor
@[go_sem] theorem as_69_69 (v : Value) (w : World) : (Instr.typeAssert (.iface 69 v) 35 69 true).run Tryd.prog w = .ok (.tuple #[v, .bool true]) w := by kernel_rfl
@[go_sem] theorem as_71_69 (v : Value) (w : World) : (Instr.typeAssert (.iface 71 v) 35 69 true).run Tryd.prog w = .ok (.tuple #[.agg #[.int .i64 0, .string ⟨#[]⟩], .bool false]) w := by kernel_rfl
@[go_sem] theorem as_72_69 (v : Value) (w : World) : (Instr.typeAssert (.iface 72 v) 35 69 true).run Tryd.prog w = .ok (.tuple #[.agg #[.int .i64 0, .string ⟨#[]⟩], .bool false]) w := by kernel_rfl
@[go_sem] theorem as_74_69 (v : Value) (w : World) : (Instr.typeAssert (.iface 74 v) 35 69 true).run Tryd.prog w = .ok (.tuple #[.agg #[.int .i64 0, .string ⟨#[]⟩], .bool false]) w := by kernel_rfl
@[go_sem] theorem as_76_69 (v : Value) (w : World) : (Instr.typeAssert (.iface 76 v) 35 69 true).run Tryd.prog w = .ok (.tuple #[.agg #[.int .i64 0, .string ⟨#[]⟩], .bool false]) w := by kernel_rfl
@[go_sem] theorem as_78_69 (v : Value) (w : World) : (Instr.typeAssert (.iface 78 v) 35 69 true).run Tryd.prog w = .ok (.tuple #[.agg #[.int .i64 0, .string ⟨#[]⟩], .bool false]) w := by kernel_rfl
@[go_sem] theorem as_80_69 (v : Value) (w : World) : (Instr.typeAssert (.iface 80 v) 35 69 true).run Tryd.prog w = .ok (.tuple #[.agg #[.int .i64 0, .string ⟨#[]⟩], .bool false]) w := by kernel_rfl
@[go_sem] theorem as_82_69 (v : Value) (w : World) : (Instr.typeAssert (.iface 82 v) 35 69 true).run Tryd.prog w = .ok (.tuple #[.agg #[.int .i64 0, .string ⟨#[]⟩], .bool false]) w := by kernel_rfl
@[go_sem] theorem as_nil_69 (w : World) : (Instr.typeAssert .nilIface 35 69 true).run Tryd.prog w = .ok (.tuple #[.agg #[.int .i64 0, .string ⟨#[]⟩], .bool false]) w := by kernel_rfl
@[go_sem] theorem as_69_71 (v : Value) (w : World) : (Instr.typeAssert (.iface 69 v) 35 71 true).run Tryd.prog w = .ok (.tuple #[.agg #[.int .i64 0], .bool false]) w := by kernel_rfl
@[go_sem] theorem as_71_71 (v : Value) (w : World) : (Instr.typeAssert (.iface 71 v) 35 71 true).run Tryd.prog w = .ok (.tuple #[v, .bool true]) w := by kernel_rfl
@[go_sem] theorem as_72_71 (v : Value) (w : World) : (Instr.typeAssert (.iface 72 v) 35 71 true).run Tryd.prog w = .ok (.tuple #[.agg #[.int .i64 0], .bool false]) w := by kernel_rfl
@[go_sem] theorem as_74_71 (v : Value) (w : World) : (Instr.typeAssert (.iface 74 v) 35 71 true).run Tryd.prog w = .ok (.tuple #[.agg #[.int .i64 0], .bool false]) w := by kernel_rfl
@[go_sem] theorem as_76_71 (v : Value) (w : World) : (Instr.typeAssert (.iface 76 v) 35 71 true).run Tryd.prog w = .ok (.tuple #[.agg #[.int .i64 0], .bool false]) w := by kernel_rfl
@[go_sem] theorem as_78_71 (v : Value) (w : World) : (Instr.typeAssert (.iface 78 v) 35 71 true).run Tryd.prog w = .ok (.tuple #[.agg #[.int .i64 0], .bool false]) w := by kernel_rfl
@[go_sem] theorem as_80_71 (v : Value) (w : World) : (Instr.typeAssert (.iface 80 v) 35 71 true).run Tryd.prog w = .ok (.tuple #[.agg #[.int .i64 0], .bool false]) w := by kernel_rfl
@[go_sem] theorem as_82_71 (v : Value) (w : World) : (Instr.typeAssert (.iface 82 v) 35 71 true).run Tryd.prog w = .ok (.tuple #[.agg #[.int .i64 0], .bool false]) w := by kernel_rfl
@[go_sem] theorem as_nil_71 (w : World) : (Instr.typeAssert .nilIface 35 71 true).run Tryd.prog w = .ok (.tuple #[.agg #[.int .i64 0], .bool false]) w := by kernel_rfl
@[go_sem] theorem as_69_72 (v : Value) (w : World) : (Instr.typeAssert (.iface 69 v) 35 72 true).run Tryd.prog w = .ok (.tuple #[.agg #[.int .i64 0], .bool false]) w := by kernel_rfl
@[go_sem] theorem as_71_72 (v : Value) (w : World) : (Instr.typeAssert (.iface 71 v) 35 72 true).run Tryd.prog w = .ok (.tuple #[.agg #[.int .i64 0], .bool false]) w := by kernel_rfl
@[go_sem] theorem as_72_72 (v : Value) (w : World) : (Instr.typeAssert (.iface 72 v) 35 72 true).run Tryd.prog w = .ok (.tuple #[v, .bool true]) w := by kernel_rfl
@[go_sem] theorem as_74_72 (v : Value) (w : World) : (Instr.typeAssert (.iface 74 v) 35 72 true).run Tryd.prog w = .ok (.tuple #[.agg #[.int .i64 0], .bool false]) w := by kernel_rfl
@[go_sem] theorem as_76_72 (v : Value) (w : World) : (Instr.typeAssert (.iface 76 v) 35 72 true).run Tryd.prog w = .ok (.tuple #[.agg #[.int .i64 0], .bool false]) w := by kernel_rfl
@[go_sem] theorem as_78_72 (v : Value) (w : World) : (Instr.typeAssert (.iface 78 v) 35 72 true).run Tryd.prog w = .ok (.tuple #[.agg #[.int .i64 0], .bool false]) w := by kernel_rfl
@[go_sem] theorem as_80_72 (v : Value) (w : World) : (Instr.typeAssert (.iface 80 v) 35 72 true).run Tryd.prog w = .ok (.tuple #[.agg #[.int .i64 0], .bool false]) w := by kernel_rfl
@[go_sem] theorem as_82_72 (v : Value) (w : World) : (Instr.typeAssert (.iface 82 v) 35 72 true).run Tryd.prog w = .ok (.tuple #[.agg #[.int .i64 0], .bool false]) w := by kernel_rfl
@[go_sem] theorem as_nil_72 (w : World) : (Instr.typeAssert .nilIface 35 72 true).run Tryd.prog w = .ok (.tuple #[.agg #[.int .i64 0], .bool false]) w := by kernel_rfl
@[go_sem] theorem as_69_74 (v : Value) (w : World) : (Instr.typeAssert (.iface 69 v) 35 74 true).run Tryd.prog w = .ok (.tuple #[.agg #[.string ⟨#[]⟩], .bool false]) w := by kernel_rfl
@[go_sem] theorem as_71_74 (v : Value) (w : World) : (Instr.typeAssert (.iface 71 v) 35 74 true).run Tryd.prog w = .ok (.tuple #[.agg #[.string ⟨#[]⟩], .bool false]) w := by kernel_rfl
@[go_sem] theorem as_72_74 (v : Value) (w : World) : (Instr.typeAssert (.iface 72 v) 35 74 true).run Tryd.prog w = .ok (.tuple #[.agg #[.string ⟨#[]⟩], .bool false]) w := by kernel_rfl
@[go_sem] theorem as_74_74 (v : Value) (w : World) : (Instr.typeAssert (.iface 74 v) 35 74 true).run Tryd.prog w = .ok (.tuple #[v, .bool true]) w := by kernel_rfl
@[go_sem] theorem as_76_74 (v : Value) (w : World) : (Instr.typeAssert (.iface 76 v) 35 74 true).run Tryd.prog w = .ok (.tuple #[.agg #[.string ⟨#[]⟩], .bool false]) w := by kernel_rfl
@[go_sem] theorem as_78_74 (v : Value) (w : World) : (Instr.typeAssert (.iface 78 v) 35 74 true).run Tryd.prog w = .ok (.tuple #[.agg #[.string ⟨#[]⟩], .bool false]) w := by kernel_rfl
@[go_sem] theorem as_80_74 (v : Value) (w : World) : (Instr.typeAssert (.iface 80 v) 35 74 true).run Tryd.prog w = .ok (.tuple #[.agg #[.string ⟨#[]⟩], .bool false]) w := by kernel_rfl
@[go_sem] theorem as_82_74 (v : Value) (w : World) : (Instr.typeAssert (.iface 82 v) 35 74 true).run Tryd.prog w = .ok (.tuple #[.agg #[.string ⟨#[]⟩], .bool false]) w := by kernel_rfl
@[go_sem] theorem as_nil_74 (w : World) : (Instr.typeAssert .nilIface 35 74 true).run Tryd.prog w = .ok (.tuple #[.agg #[.string ⟨#[]⟩], .bool false]) w := by kernel_rfl
@[go_sem] theorem as_69_76 (v : Value) (w : World) : (Instr.typeAssert (.iface 69 v) 35 76 true).run Tryd.prog w = .ok (.tuple #[.agg #[.bool false, .int .i64 0], .bool false]) w := by kernel_rfl
@[go_sem] theorem as_71_76 (v : Value) (w : World) : (Instr.typeAssert (.iface 71 v) 35 76 true).run Tryd.prog w = .ok (.tuple #[.agg #[.bool false, .int .i64 0], .bool false]) w := by kernel_rfl
@[go_sem] theorem as_72_76 (v : Value) (w : World) : (Instr.typeAssert (.iface 72 v) 35 76 true).run Tryd.prog w = .ok (.tuple #[.agg #[.bool false, .int .i64 0], .bool false]) w := by kernel_rfl
@[go_sem] theorem as_74_76 (v : Value) (w : World) : (Instr.typeAssert (.iface 74 v) 35 76 true).run Tryd.prog w = .ok (.tuple #[.agg #[.bool false, .int .i64 0], .bool false]) w := by kernel_rfl
@[go_sem] theorem as_76_76 (v : Value) (w : World) : (Instr.typeAssert (.iface 76 v) 35 76 true).run Tryd.prog w = .ok (.tuple #[v, .bool true]) w := by kernel_rfl
@[go_sem] theorem as_78_76 (v : Value) (w : World) : (Instr.typeAssert (.iface 78 v) 35 76 true).run Tryd.prog w = .ok (.tuple #[.agg #[.bool false, .int .i64 0], .bool false]) w := by kernel_rfl
@[go_sem] theorem as_80_76 (v : Value) (w : World) : (Instr.typeAssert (.iface 80 v) 35 76 true).run Tryd.prog w = .ok (.tuple #[.agg #[.bool false, .int .i64 0], .bool false]) w := by kernel_rfl
@[go_sem] theorem as_82_76 (v : Value) (w : World) : (Instr.typeAssert (.iface 82 v) 35 76 true).run Tryd.prog w = .ok (.tuple #[.agg #[.bool false, .int .i64 0], .bool false]) w := by kernel_rfl
@[go_sem] theorem as_nil_76 (w : World) : (Instr.typeAssert .nilIface 35 76 true).run Tryd.prog w = .ok (.tuple #[.agg #[.bool false, .int .i64 0], .bool false]) w := by kernel_rfl
@[go_sem] theorem as_69_78 (v : Value) (w : World) : (Instr.typeAssert (.iface 69 v) 35 78 true).run Tryd.prog w = .ok (.tuple #[.agg #[.string ⟨#[]⟩, .int .i64 0], .bool false]) w := by kernel_rfl
@[go_sem] theorem as_71_78 (v : Value) (w : World) : (Instr.typeAssert (.iface 71 v) 35 78 true).run Tryd.prog w = .ok (.tuple #[.agg #[.string ⟨#[]⟩, .int .i64 0], .bool false]) w := by kernel_rfl
@[go_sem] theorem as_72_78 (v : Value) (w : World) : (Instr.typeAssert (.iface 72 v) 35 78 true).run Tryd.prog w = .ok (.tuple #[.agg #[.string ⟨#[]⟩, .int .i64 0], .bool false]) w := by kernel_rfl
@[go_sem] theorem as_74_78 (v : Value) (w : World) : (Instr.typeAssert (.iface 74 v) 35 78 true).run Tryd.prog w = .ok (.tuple #[.agg #[.string ⟨#[]⟩, .int .i64 0], .bool false]) w := by kernel_rfl
@[go_sem] theorem as_76_78 (v : Value) (w : World) : (Instr.typeAssert (.iface 76 v) 35 78 true).run Tryd.prog w = .ok (.tuple #[.agg #[.string ⟨#[]⟩, .int .i64 0], .bool false]) w := by kernel_rfl
@[go_sem] theorem as_78_78 (v : Value) (w : World) : (Instr.typeAssert (.iface 78 v) 35 78 true).run Tryd.prog w = .ok (.tuple #[v, .bool true]) w := by kernel_rfl
@[go_sem] theorem as_80_78 (v : Value) (w : World) : (Instr.typeAssert (.iface 80 v) 35 78 true).run Tryd.prog w = .ok (.tuple #[.agg #[.string ⟨#[]⟩, .int .i64 0], .bool false]) w := by kernel_rfl
@[go_sem] theorem as_82_78 (v : Value) (w : World) : (Instr.typeAssert (.iface 82 v) 35 78 true).run Tryd.prog w = .ok (.tuple #[.agg #[.string ⟨#[]⟩, .int .i64 0], .bool false]) w := by kernel_rfl
@[go_sem] theorem as_nil_78 (w : World) : (Instr.typeAssert .nilIface 35 78 true).run Tryd.prog w = .ok (.tuple #[.agg #[.string ⟨#[]⟩, .int .i64 0], .bool false]) w := by kernel_rfl
@[go_sem] theorem as_69_80 (v : Value) (w : World) : (Instr.typeAssert (.iface 69 v) 35 80 true).run Tryd.prog w = .ok (.tuple #[.agg #[.int .i64 0, .int .i64 0], .bool false]) w := by kernel_rfl
@[go_sem] theorem as_71_80 (v : Value) (w : World) : (Instr.typeAssert (.iface 71 v) 35 80 true).run Tryd.prog w = .ok (.tuple #[.agg #[.int .i64 0, .int .i64 0], .bool false]) w := by kernel_rfl
@[go_sem] theorem as_72_80 (v : Value) (w : World) : (Instr.typeAssert (.iface 72 v) 35 80 true).run Tryd.prog w = .ok (.tuple #[.agg #[.int .i64 0, .int .i64 0], .bool false]) w := by kernel_rfl
@[go_sem] theorem as_74_80 (v : Value) (w : World) : (Instr.typeAssert (.iface 74 v) 35 80 true).run Tryd.prog w = .ok (.tuple #[.agg #[.int .i64 0, .int .i64 0], .bool false]) w := by kernel_rfl
@[go_sem] theorem as_76_80 (v : Value) (w : World) : (Instr.typeAssert (.iface 76 v) 35 80 true).run Tryd.prog w = .ok (.tuple #[.agg #[.int .i64 0, .int .i64 0], .bool false]) w := by kernel_rfl
@[go_sem] theorem as_78_80 (v : Value) (w : World) : (Instr.typeAssert (.iface 78 v) 35 80 true).run Tryd.prog w = .ok (.tuple #[.agg #[.int .i64 0, .int .i64 0], .bool false]) w := by kernel_rfl
@[go_sem] theorem as_80_80 (v : Value) (w : World) : (Instr.typeAssert (.iface 80 v) 35 80 true).run Tryd.prog w = .ok (.tuple #[v, .bool true]) w := by kernel_rfl
@[go_sem] theorem as_82_80 (v : Value) (w : World) : (Instr.typeAssert (.iface 82 v) 35 80 true).run Tryd.prog w = .ok (.tuple #[.agg #[.int .i64 0, .int .i64 0], .bool false]) w := by kernel_rfl
@[go_sem] theorem as_nil_80 (w : World) : (Instr.typeAssert .nilIface 35 80 true).run Tryd.prog w = .ok (.tuple #[.agg #[.int .i64 0, .int .i64 0], .bool false]) w := by kernel_rfl
@[go_sem] theorem as_69_82 (v : Value) (w : World) : (Instr.typeAssert (.iface 69 v) 35 82 true).run Tryd.prog w = .ok (.tuple #[.agg #[.int .i64 0, .int .u64 0], .bool false]) w := by kernel_rfl
@[go_sem] theorem as_71_82 (v : Value) (w : World) : (Instr.typeAssert (.iface 71 v) 35 82 true).run Tryd.prog w = .ok (.tuple #[.agg #[.int .i64 0, .int .u64 0], .bool false]) w := by kernel_rfl
@[go_sem] theorem as_72_82 (v : Value) (w : World) : (Instr.typeAssert (.iface 72 v) 35 82 true).run Tryd.prog w = .ok (.tuple #[.agg #[.int .i64 0, .int .u64 0], .bool false]) w := by kernel_rfl
@[go_sem] theorem as_74_82 (v : Value) (w : World) : (Instr.typeAssert (.iface 74 v) 35 82 true).run Tryd.prog w = .ok (.tuple #[.agg #[.int .i64 0, .int .u64 0], .bool false]) w := by kernel_rfl
@[go_sem] theorem as_76_82 (v : Value) (w : World) : (Instr.typeAssert (.iface 76 v) 35 82 true).run Tryd.prog w = .ok (.tuple #[.agg #[.int .i64 0, .int .u64 0], .bool false]) w := by kernel_rfl
@[go_sem] theorem as_78_82 (v : Value) (w : World) : (Instr.typeAssert (.iface 78 v) 35 82 true).run Tryd.prog w = .ok (.tuple #[.agg #[.int .i64 0, .int .u64 0], .bool false]) w := by kernel_rfl
@[go_sem] theorem as_80_82 (v : Value) (w : World) : (Instr.typeAssert (.iface 80 v) 35 82 true).run Tryd.prog w = .ok (.tuple #[.agg #[.int .i64 0, .int .u64 0], .bool false]) w := by kernel_rfl
@[go_sem] theorem as_82_82 (v : Value) (w : World) : (Instr.typeAssert (.iface 82 v) 35 82 true).run Tryd.prog w = .ok (.tuple #[v, .bool true]) w := by kernel_rfl
@[go_sem] theorem as_nil_82 (w : World) : (Instr.typeAssert .nilIface 35 82 true).run Tryd.prog w = .ok (.tuple #[.agg #[.int .i64 0, .int .u64 0], .bool false]) w := by kernel_rfl
@[go_sem] theorem ad_69 (v : Value) (w : World) : (Instr.typeAssert (.iface 69 v) 35 85 true).run Tryd.prog w = .ok (.tuple #[.iface 69 v, .bool true]) w := run_typeAssert_hasB Tryd.underlying85 (by kernel_rfl) v 35 w
@[go_sem] theorem ad_71 (v : Value) (w : World) : (Instr.typeAssert (.iface 71 v) 35 85 true).run Tryd.prog w = .ok (.tuple #[.iface 71 v, .bool true]) w := run_typeAssert_hasB Tryd.underlying85 (by kernel_rfl) v 35 w
@[go_sem] theorem ad_72 (v : Value) (w : World) : (Instr.typeAssert (.iface 72 v) 35 85 true).run Tryd.prog w = .ok (.tuple #[.iface 72 v, .bool true]) w := run_typeAssert_hasB Tryd.underlying85 (by kernel_rfl) v 35 w
@[go_sem] theorem ad_74 (v : Value) (w : World) : (Instr.typeAssert (.iface 74 v) 35 85 true).run Tryd.prog w = .ok (.tuple #[.nilIface, .bool false]) w := run_typeAssert_lacksB Tryd.underlying85 (by kernel_rfl) (by kernel_rfl) v 35 w
@[go_sem] theorem ad_76 (v : Value) (w : World) : (Instr.typeAssert (.iface 76 v) 35 85 true).run Tryd.prog w = .ok (.tuple #[.nilIface, .bool false]) w := run_typeAssert_lacksB Tryd.underlying85 (by kernel_rfl) (by kernel_rfl) v 35 w
@[go_sem] theorem ad_78 (v : Value) (w : World) : (Instr.typeAssert (.iface 78 v) 35 85 true).run Tryd.prog w = .ok (.tuple #[.nilIface, .bool false]) w := run_typeAssert_lacksB Tryd.underlying85 (by kernel_rfl) (by kernel_rfl) v 35 w
@[go_sem] theorem ad_80 (v : Value) (w : World) : (Instr.typeAssert (.iface 80 v) 35 85 true).run Tryd.prog w = .ok (.tuple #[.nilIface, .bool false]) w := run_typeAssert_lacksB Tryd.underlying85 (by kernel_rfl) (by kernel_rfl) v 35 w
@[go_sem] theorem ad_82 (v : Value) (w : World) : (Instr.typeAssert (.iface 82 v) 35 85 true).run Tryd.prog w = .ok (.tuple #[.nilIface, .bool false]) w := run_typeAssert_lacksB Tryd.underlying85 (by kernel_rfl) (by kernel_rfl) v 35 w
@[go_sem] theorem ad_nil (w : World) : (Instr.typeAssert .nilIface 35 85 true).run Tryd.prog w = .ok (.tuple #[.nilIface, .bool false]) w := by kernel_rfl
@[go_sem] theorem ae_69 (v : Value) (w : World) : (Instr.typeAssert (.iface 69 v) 35 85 false).run Tryd.prog w = .ok (.iface 69 v) w := by kernel_rfl
@[go_sem] theorem ae_71 (v : Value) (w : World) : (Instr.typeAssert (.iface 71 v) 35 85 false).run Tryd.prog w = .ok (.iface 71 v) w := by kernel_rfl
@[go_sem] theorem ae_72 (v : Value) (w : World) : (Instr.typeAssert (.iface 72 v) 35 85 false).run Tryd.prog w = .ok (.iface 72 v) w := by kernel_rfl

@[go_sem] theorem mw_69 (n : Int) (s : ByteArray) (w : World) : (method 250 69 (.agg #[.int .i64 n, .string s]) "Word").run Tryd.prog w = .ok (93, .agg #[.int .i64 n, .string s]) w := by kernel_rfl
@[go_sem] theorem mb_69 (n : Int) (s : ByteArray) (w : World) : (method 250 69 (.agg #[.int .i64 n, .string s]) "Block").run Tryd.prog w = .ok (92, .agg #[.int .i64 n, .string s]) w := by kernel_rfl
@[go_sem] theorem mw_71 (n : Int) (w : World) : (method 250 71 (.agg #[.int .i64 n]) "Word").run Tryd.prog w = .ok (95, .agg #[.int .i64 n]) w := by kernel_rfl
@[go_sem] theorem mb_71 (n : Int) (w : World) : (method 250 71 (.agg #[.int .i64 n]) "Block").run Tryd.prog w = .ok (94, .agg #[.int .i64 n]) w := by kernel_rfl
@[go_sem] theorem mw_72 (n : Int) (w : World) : (method 250 72 (.agg #[.int .i64 n]) "Word").run Tryd.prog w = .ok (97, .agg #[.int .i64 n]) w := by kernel_rfl
@[go_sem] theorem mb_72 (n : Int) (w : World) : (method 250 72 (.agg #[.int .i64 n]) "Block").run Tryd.prog w = .ok (96, .agg #[.int .i64 n]) w := by kernel_rfl
@[go_sem] theorem mw_74 (s : ByteArray) (w : World) : (method 250 74 (.agg #[.string s]) "Word").run Tryd.prog w = .ok (98, .agg #[.string s]) w := by kernel_rfl
@[go_sem] theorem mw_76 (b : Bool) (n : Int) (w : World) : (method 250 76 (.agg #[.bool b, .int .i64 n]) "Word").run Tryd.prog w = .ok (99, .agg #[.bool b, .int .i64 n]) w := by kernel_rfl
@[go_sem] theorem mw_78 (s : ByteArray) (n : Int) (w : World) : (method 250 78 (.agg #[.string s, .int .i64 n]) "Word").run Tryd.prog w = .ok (100, .agg #[.string s, .int .i64 n]) w := by kernel_rfl
@[go_sem] theorem mw_80 (n m : Int) (w : World) : (method 250 80 (.agg #[.int .i64 n, .int .i64 m]) "Word").run Tryd.prog w = .ok (101, .agg #[.int .i64 n, .int .i64 m]) w := by kernel_rfl
@[go_sem] theorem mw_82 (n m : Int) (w : World) : (method 250 82 (.agg #[.int .i64 n, .int .u64 m]) "Word").run Tryd.prog w = .ok (102, .agg #[.int .i64 n, .int .u64 m]) w := by kernel_rfl

end Go.Proofs.YtpjocnembjocgaaDoor
