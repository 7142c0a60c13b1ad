/- The table of types of this seat's translation, for the executor; each row is shown by the kernel. Written by xtab.py. -/
import Derived.Test.YthbeoebnhhkmiaaDoorProg
import Derived.Test.YthbeoebnhhkmiaaDoorXe
import Derived.KernelRfl
namespace Go.Proofs.YthbeoebnhhkmiaaDoor
open Go.Xe

def ti2 : TI := ⟨.int .i64, .int .i64 0, 1, 8, false⟩
def ti3 : TI := ⟨.int .i64, .int .i64 0, 1, 8, false⟩
def ti4 : TI := ⟨.bool, .bool false, 1, 1, false⟩
def ti5 : TI := ⟨.int .u8, .int .u8 0, 1, 1, false⟩
def ti6 : TI := ⟨.int .u8, .int .u8 0, 1, 1, false⟩
def ti7 : TI := ⟨.struct #[⟨ "x", 2, 0, false, "", "runtime", 0⟩, ⟨ "y", 3, 1, false, "", "runtime", 8⟩, ⟨ "signed", 4, 2, false, "", "runtime", 16⟩, ⟨ "code", 6, 3, false, "", "runtime", 17⟩], .agg #[.int .i64 0, .int .i64 0, .bool false, .int .u8 0], 4, 24, false⟩
def ti8 : TI := ⟨.struct #[⟨ "x", 2, 0, false, "", "runtime", 0⟩, ⟨ "y", 3, 1, false, "", "runtime", 8⟩, ⟨ "signed", 4, 2, false, "", "runtime", 16⟩, ⟨ "code", 6, 3, false, "", "runtime", 17⟩], .agg #[.int .i64 0, .int .i64 0, .bool false, .int .u8 0], 4, 24, false⟩
def ti9 : TI := ⟨.string, .string ByteArray.empty, 1, 16, false⟩
def ti10 : TI := ⟨.string, .string ByteArray.empty, 1, 16, false⟩
def ti11 : TI := ⟨.string, .string ByteArray.empty, 1, 16, false⟩
def ti12 : TI := ⟨.int .u64, .int .u64 0, 1, 8, false⟩
def ti13 : TI := ⟨.struct #[⟨ "msg", 9, 0, false, "", "runtime", 0⟩, ⟨ "addr", 12, 1, false, "", "runtime", 16⟩], .agg #[.string ByteArray.empty, .int .u64 0], 2, 24, false⟩
def ti14 : TI := ⟨.struct #[⟨ "msg", 9, 0, false, "", "runtime", 0⟩, ⟨ "addr", 12, 1, false, "", "runtime", 16⟩], .agg #[.string ByteArray.empty, .int .u64 0], 2, 24, false⟩
def ti15 : TI := ⟨.pointer 132, .pointer none, 1, 8, false⟩
def ti16 : TI := ⟨.pointer 135, .pointer none, 1, 8, false⟩
def ti17 : TI := ⟨.pointer 143, .pointer none, 1, 8, false⟩
def ti18 : TI := ⟨.struct #[⟨ "typ", 17, 0, false, "", "internal/runtime/maps", 0⟩], .agg #[.pointer none], 1, 8, false⟩
def ti19 : TI := ⟨.struct #[⟨ "typ", 17, 0, false, "", "internal/runtime/maps", 0⟩], .agg #[.pointer none], 1, 8, false⟩
def ti21 : TI := ⟨.int .i32, .int .i32 0, 1, 4, false⟩
def ti22 : TI := ⟨.slice 46, .slice none 0 0, 1, 24, false⟩
def ti24 : TI := ⟨.struct #[⟨ "Code", 2, 0, false, "", "", 0⟩, ⟨ "Text", 9, 1, false, "", "", 8⟩], .agg #[.int .i64 0, .string ByteArray.empty], 2, 24, false⟩
def ti25 : TI := ⟨.struct #[⟨ "Code", 2, 0, false, "", "", 0⟩, ⟨ "Text", 9, 1, false, "", "", 8⟩], .agg #[.int .i64 0, .string ByteArray.empty], 2, 24, true⟩
def ti27 : TI := ⟨.slice 49, .slice none 0 0, 1, 24, false⟩
def ti32 : TI := ⟨.slice 9, .slice none 0 0, 1, 24, false⟩
def ti33 : TI := ⟨.struct #[⟨ "Code", 2, 0, false, "", "", 0⟩, ⟨ "Names", 32, 1, false, "", "", 8⟩], .agg #[.int .i64 0, .slice none 0 0], 2, 32, false⟩
def ti34 : TI := ⟨.struct #[⟨ "Code", 2, 0, false, "", "", 0⟩, ⟨ "Names", 32, 1, false, "", "", 8⟩], .agg #[.int .i64 0, .slice none 0 0], 2, 32, false⟩
def ti45 : TI := ⟨.struct #[⟨ "Name", 9, 0, false, "", "", 0⟩, ⟨ "Value", 9, 1, false, "", "", 16⟩], .agg #[.string ByteArray.empty, .string ByteArray.empty], 2, 32, false⟩
def ti46 : TI := ⟨.struct #[⟨ "Name", 9, 0, false, "", "", 0⟩, ⟨ "Value", 9, 1, false, "", "", 16⟩], .agg #[.string ByteArray.empty, .string ByteArray.empty], 2, 32, true⟩
def ti49 : TI := ⟨.struct #[⟨ "Name", 9, 0, false, "", "", 0⟩, ⟨ "Value", 9, 1, false, "", "", 16⟩], .agg #[.string ByteArray.empty, .string ByteArray.empty], 2, 32, true⟩
def ti60 : TI := ⟨.slice 66, .slice none 0 0, 1, 24, false⟩
def ti61 : TI := ⟨.struct #[⟨ "Code", 2, 0, false, "", "", 0⟩, ⟨ "Items", 60, 1, false, "", "", 8⟩], .agg #[.int .i64 0, .slice none 0 0], 2, 32, false⟩
def ti62 : TI := ⟨.struct #[⟨ "Code", 2, 0, false, "", "", 0⟩, ⟨ "Items", 60, 1, false, "", "", 8⟩], .agg #[.int .i64 0, .slice none 0 0], 2, 32, false⟩
def ti65 : TI := ⟨.struct #[⟨ "Name", 9, 0, false, "", "", 0⟩, ⟨ "Has", 4, 1, false, "", "", 16⟩, ⟨ "Value", 9, 2, false, "", "", 24⟩], .agg #[.string ByteArray.empty, .bool false, .string ByteArray.empty], 3, 40, false⟩
def ti66 : TI := ⟨.struct #[⟨ "Name", 9, 0, false, "", "", 0⟩, ⟨ "Has", 4, 1, false, "", "", 16⟩, ⟨ "Value", 9, 2, false, "", "", 24⟩], .agg #[.string ByteArray.empty, .bool false, .string ByteArray.empty], 3, 40, true⟩
def ti76 : TI := ⟨.slice 5, .slice none 0 0, 1, 24, false⟩
def ti85 : TI := ⟨.pointer 87, .pointer none, 1, 8, false⟩
def ti86 : TI := ⟨.struct #[⟨ "addr", 85, 0, false, "", "strings", 0⟩, ⟨ "buf", 76, 1, false, "", "strings", 8⟩], .agg #[.pointer none, .slice none 0 0], 2, 32, false⟩
def ti87 : TI := ⟨.struct #[⟨ "addr", 85, 0, false, "", "strings", 0⟩, ⟨ "buf", 76, 1, false, "", "strings", 8⟩], .agg #[.pointer none, .slice none 0 0], 2, 32, false⟩
def ti99 : TI := ⟨.array 256 4, .agg #[.bool false, .bool false, .bool false, .bool false, .bool false, .bool false, .bool false, .bool false, .bool false, .bool false, .bool false, .bool false, .bool false, .bool false, .bool false, .bool false, .bool false, .bool false, .bool false, .bool false, .bool false, .bool false, .bool false, .bool false, .bool false, .bool false, .bool false, .bool false, .bool false, .bool false, .bool false, .bool false, .bool false, .bool false, .bool false, .bool false, .bool false, .bool false, .bool false, .bool false, .bool false, .bool false, .bool false, .bool false, .bool false, .bool false, .bool false, .bool false, .bool false, .bool false, .bool false, .bool false, .bool false, .bool false, .bool false, .bool false, .bool false, .bool false, .bool false, .bool false, .bool false, .bool false, .bool false, .bool false, .bool false, .bool false, .bool false, .bool false, .bool false, .bool false, .bool false, .bool false, .bool false, .bool false, .bool false, .bool false, .bool false, .bool false, .bool false, .bool false, .bool false, .bool false, .bool false, .bool false, .bool false, .bool false, .bool false, .bool false, .bool false, .bool false, .bool false, .bool false, .bool false, .bool false, .bool false, .bool false, .bool false, .bool false, .bool false, .bool false, .bool false, .bool false, .bool false, .bool false, .bool false, .bool false, .bool false, .bool false, .bool false, .bool false, .bool false, .bool false, .bool false, .bool false, .bool false, .bool false, .bool false, .bool false, .bool false, .bool false, .bool false, .bool false, .bool false, .bool false, .bool false, .bool false, .bool false, .bool false, .bool false, .bool false, .bool false, .bool false, .bool false, .bool false, .bool false, .bool false, .bool false, .bool false, .bool false, .bool false, .bool false, .bool false, .bool false, .bool false, .bool false, .bool false, .bool false, .bool false, .bool false, .bool false, .bool false, .bool false, .bool false, .bool false, .bool false, .bool false, .bool false, .bool false, .bool false, .bool false, .bool false, .bool false, .bool false, .bool false, .bool false, .bool false, .bool false, .bool false, .bool false, .bool false, .bool false, .bool false, .bool false, .bool false, .bool false, .bool false, .bool false, .bool false, .bool false, .bool false, .bool false, .bool false, .bool false, .bool false, .bool false, .bool false, .bool false, .bool false, .bool false, .bool false, .bool false, .bool false, .bool false, .bool false, .bool false, .bool false, .bool false, .bool false, .bool false, .bool false, .bool false, .bool false, .bool false, .bool false, .bool false, .bool false, .bool false, .bool false, .bool false, .bool false, .bool false, .bool false, .bool false, .bool false, .bool false, .bool false, .bool false, .bool false, .bool false, .bool false, .bool false, .bool false, .bool false, .bool false, .bool false, .bool false, .bool false, .bool false, .bool false, .bool false, .bool false, .bool false, .bool false, .bool false, .bool false, .bool false, .bool false, .bool false, .bool false, .bool false, .bool false, .bool false, .bool false, .bool false, .bool false, .bool false, .bool false, .bool false, .bool false, .bool false, .bool false, .bool false, .bool false, .bool false, .bool false, .bool false], 256, 256, false⟩
def ti100 : TI := ⟨.array 256 4, .agg #[.bool false, .bool false, .bool false, .bool false, .bool false, .bool false, .bool false, .bool false, .bool false, .bool false, .bool false, .bool false, .bool false, .bool false, .bool false, .bool false, .bool false, .bool false, .bool false, .bool false, .bool false, .bool false, .bool false, .bool false, .bool false, .bool false, .bool false, .bool false, .bool false, .bool false, .bool false, .bool false, .bool false, .bool false, .bool false, .bool false, .bool false, .bool false, .bool false, .bool false, .bool false, .bool false, .bool false, .bool false, .bool false, .bool false, .bool false, .bool false, .bool false, .bool false, .bool false, .bool false, .bool false, .bool false, .bool false, .bool false, .bool false, .bool false, .bool false, .bool false, .bool false, .bool false, .bool false, .bool false, .bool false, .bool false, .bool false, .bool false, .bool false, .bool false, .bool false, .bool false, .bool false, .bool false, .bool false, .bool false, .bool false, .bool false, .bool false, .bool false, .bool false, .bool false, .bool false, .bool false, .bool false, .bool false, .bool false, .bool false, .bool false, .bool false, .bool false, .bool false, .bool false, .bool false, .bool false, .bool false, .bool false, .bool false, .bool false, .bool false, .bool false, .bool false, .bool false, .bool false, .bool false, .bool false, .bool false, .bool false, .bool false, .bool false, .bool false, .bool false, .bool false, .bool false, .bool false, .bool false, .bool false, .bool false, .bool false, .bool false, .bool false, .bool false, .bool false, .bool false, .bool false, .bool false, .bool false, .bool false, .bool false, .bool false, .bool false, .bool false, .bool false, .bool false, .bool false, .bool false, .bool false, .bool false, .bool false, .bool false, .bool false, .bool false, .bool false, .bool false, .bool false, .bool false, .bool false, .bool false, .bool false, .bool false, .bool false, .bool false, .bool false, .bool false, .bool false, .bool false, .bool false, .bool false, .bool false, .bool false, .bool false, .bool false, .bool false, .bool false, .bool false, .bool false, .bool false, .bool false, .bool false, .bool false, .bool false, .bool false, .bool false, .bool false, .bool false, .bool false, .bool false, .bool false, .bool false, .bool false, .bool false, .bool false, .bool false, .bool false, .bool false, .bool false, .bool false, .bool false, .bool false, .bool false, .bool false, .bool false, .bool false, .bool false, .bool false, .bool false, .bool false, .bool false, .bool false, .bool false, .bool false, .bool false, .bool false, .bool false, .bool false, .bool false, .bool false, .bool false, .bool false, .bool false, .bool false, .bool false, .bool false, .bool false, .bool false, .bool false, .bool false, .bool false, .bool false, .bool false, .bool false, .bool false, .bool false, .bool false, .bool false, .bool false, .bool false, .bool false, .bool false, .bool false, .bool false, .bool false, .bool false, .bool false, .bool false, .bool false, .bool false, .bool false, .bool false, .bool false, .bool false, .bool false, .bool false, .bool false, .bool false, .bool false, .bool false, .bool false, .bool false, .bool false, .bool false, .bool false, .bool false, .bool false, .bool false, .bool false], 256, 256, false⟩
def ti104 : TI := ⟨.pointer 100, .pointer none, 1, 8, false⟩
def ti108 : TI := ⟨.pointer 5, .pointer none, 1, 8, false⟩
def ti120 : TI := ⟨.int .u64, .int .u64 0, 1, 8, false⟩
def ti122 : TI := ⟨.array 256 5, .agg #[.int .u8 0, .int .u8 0, .int .u8 0, .int .u8 0, .int .u8 0, .int .u8 0, .int .u8 0, .int .u8 0, .int .u8 0, .int .u8 0, .int .u8 0, .int .u8 0, .int .u8 0, .int .u8 0, .int .u8 0, .int .u8 0, .int .u8 0, .int .u8 0, .int .u8 0, .int .u8 0, .int .u8 0, .int .u8 0, .int .u8 0, .int .u8 0, .int .u8 0, .int .u8 0, .int .u8 0, .int .u8 0, .int .u8 0, .int .u8 0, .int .u8 0, .int .u8 0, .int .u8 0, .int .u8 0, .int .u8 0, .int .u8 0, .int .u8 0, .int .u8 0, .int .u8 0, .int .u8 0, .int .u8 0, .int .u8 0, .int .u8 0, .int .u8 0, .int .u8 0, .int .u8 0, .int .u8 0, .int .u8 0, .int .u8 0, .int .u8 0, .int .u8 0, .int .u8 0, .int .u8 0, .int .u8 0, .int .u8 0, .int .u8 0, .int .u8 0, .int .u8 0, .int .u8 0, .int .u8 0, .int .u8 0, .int .u8 0, .int .u8 0, .int .u8 0, .int .u8 0, .int .u8 0, .int .u8 0, .int .u8 0, .int .u8 0, .int .u8 0, .int .u8 0, .int .u8 0, .int .u8 0, .int .u8 0, .int .u8 0, .int .u8 0, .int .u8 0, .int .u8 0, .int .u8 0, .int .u8 0, .int .u8 0, .int .u8 0, .int .u8 0, .int .u8 0, .int .u8 0, .int .u8 0, .int .u8 0, .int .u8 0, .int .u8 0, .int .u8 0, .int .u8 0, .int .u8 0, .int .u8 0, .int .u8 0, .int .u8 0, .int .u8 0, .int .u8 0, .int .u8 0, .int .u8 0, .int .u8 0, .int .u8 0, .int .u8 0, .int .u8 0, .int .u8 0, .int .u8 0, .int .u8 0, .int .u8 0, .int .u8 0, .int .u8 0, .int .u8 0, .int .u8 0, .int .u8 0, .int .u8 0, .int .u8 0, .int .u8 0, .int .u8 0, .int .u8 0, .int .u8 0, .int .u8 0, .int .u8 0, .int .u8 0, .int .u8 0, .int .u8 0, .int .u8 0, .int .u8 0, .int .u8 0, .int .u8 0, .int .u8 0, .int .u8 0, .int .u8 0, .int .u8 0, .int .u8 0, .int .u8 0, .int .u8 0, .int .u8 0, .int .u8 0, .int .u8 0, .int .u8 0, .int .u8 0, .int .u8 0, .int .u8 0, .int .u8 0, .int .u8 0, .int .u8 0, .int .u8 0, .int .u8 0, .int .u8 0, .int .u8 0, .int .u8 0, .int .u8 0, .int .u8 0, .int .u8 0, .int .u8 0, .int .u8 0, .int .u8 0, .int .u8 0, .int .u8 0, .int .u8 0, .int .u8 0, .int .u8 0, .int .u8 0, .int .u8 0, .int .u8 0, .int .u8 0, .int .u8 0, .int .u8 0, .int .u8 0, .int .u8 0, .int .u8 0, .int .u8 0, .int .u8 0, .int .u8 0, .int .u8 0, .int .u8 0, .int .u8 0, .int .u8 0, .int .u8 0, .int .u8 0, .int .u8 0, .int .u8 0, .int .u8 0, .int .u8 0, .int .u8 0, .int .u8 0, .int .u8 0, .int .u8 0, .int .u8 0, .int .u8 0, .int .u8 0, .int .u8 0, .int .u8 0, .int .u8 0, .int .u8 0, .int .u8 0, .int .u8 0, .int .u8 0, .int .u8 0, .int .u8 0, .int .u8 0, .int .u8 0, .int .u8 0, .int .u8 0, .int .u8 0, .int .u8 0, .int .u8 0, .int .u8 0, .int .u8 0, .int .u8 0, .int .u8 0, .int .u8 0, .int .u8 0, .int .u8 0, .int .u8 0, .int .u8 0, .int .u8 0, .int .u8 0, .int .u8 0, .int .u8 0, .int .u8 0, .int .u8 0, .int .u8 0, .int .u8 0, .int .u8 0, .int .u8 0, .int .u8 0, .int .u8 0, .int .u8 0, .int .u8 0, .int .u8 0, .int .u8 0, .int .u8 0, .int .u8 0, .int .u8 0, .int .u8 0, .int .u8 0, .int .u8 0, .int .u8 0, .int .u8 0, .int .u8 0, .int .u8 0, .int .u8 0, .int .u8 0, .int .u8 0, .int .u8 0, .int .u8 0, .int .u8 0, .int .u8 0, .int .u8 0, .int .u8 0, .int .u8 0, .int .u8 0, .int .u8 0, .int .u8 0, .int .u8 0, .int .u8 0, .int .u8 0], 256, 256, false⟩
def ti123 : TI := ⟨.struct #[⟨ "lo", 5, 0, false, "", "unicode/utf8", 0⟩, ⟨ "hi", 5, 1, false, "", "unicode/utf8", 1⟩], .agg #[.int .u8 0, .int .u8 0], 2, 2, false⟩
def ti124 : TI := ⟨.struct #[⟨ "lo", 5, 0, false, "", "unicode/utf8", 0⟩, ⟨ "hi", 5, 1, false, "", "unicode/utf8", 1⟩], .agg #[.int .u8 0, .int .u8 0], 2, 2, false⟩
def ti125 : TI := ⟨.array 16 124, .agg #[.int .u8 0, .int .u8 0, .int .u8 0, .int .u8 0, .int .u8 0, .int .u8 0, .int .u8 0, .int .u8 0, .int .u8 0, .int .u8 0, .int .u8 0, .int .u8 0, .int .u8 0, .int .u8 0, .int .u8 0, .int .u8 0, .int .u8 0, .int .u8 0, .int .u8 0, .int .u8 0, .int .u8 0, .int .u8 0, .int .u8 0, .int .u8 0, .int .u8 0, .int .u8 0, .int .u8 0, .int .u8 0, .int .u8 0, .int .u8 0, .int .u8 0, .int .u8 0], 32, 32, false⟩
def ti126 : TI := ⟨.int .u32, .int .u32 0, 1, 4, false⟩
def ti131 : TI := ⟨.struct #[⟨ "_interface", 17, 0, false, "", "runtime", 0⟩, ⟨ "concrete", 17, 1, false, "", "runtime", 8⟩, ⟨ "asserted", 17, 2, false, "", "runtime", 16⟩, ⟨ "missingMethod", 9, 3, false, "", "runtime", 24⟩], .agg #[.pointer none, .pointer none, .pointer none, .string ByteArray.empty], 4, 40, false⟩
def ti132 : TI := ⟨.struct #[⟨ "_interface", 17, 0, false, "", "runtime", 0⟩, ⟨ "concrete", 17, 1, false, "", "runtime", 8⟩, ⟨ "asserted", 17, 2, false, "", "runtime", 16⟩, ⟨ "missingMethod", 9, 3, false, "", "runtime", 24⟩], .agg #[.pointer none, .pointer none, .pointer none, .string ByteArray.empty], 4, 40, false⟩
def ti133 : TI := ⟨.array 0 16, .agg #[], 0, 0, false⟩
def ti134 : TI := ⟨.struct #[⟨ "_", 133, 0, false, "", "runtime", 0⟩], .agg #[], 0, 0, false⟩
def ti135 : TI := ⟨.struct #[⟨ "_", 133, 0, false, "", "runtime", 0⟩], .agg #[], 0, 0, false⟩
def ti137 : TI := ⟨.int .u8, .int .u8 0, 1, 1, false⟩
def ti138 : TI := ⟨.int .u8, .int .u8 0, 1, 1, false⟩
def ti140 : TI := ⟨.int .i32, .int .i32 0, 1, 4, false⟩
def ti141 : TI := ⟨.int .i32, .int .i32 0, 1, 4, false⟩
def ti142 : TI := ⟨.struct #[⟨ "Size_", 12, 0, false, "", "", 0⟩, ⟨ "PtrBytes", 12, 1, false, "", "", 8⟩, ⟨ "Hash", 126, 2, false, "", "", 16⟩, ⟨ "TFlag", 137, 3, false, "", "", 20⟩, ⟨ "Align_", 5, 4, false, "", "", 21⟩, ⟨ "FieldAlign_", 5, 5, false, "", "", 22⟩, ⟨ "Kind_", 138, 6, false, "", "", 23⟩, ⟨ "Equal", 139, 7, false, "", "", 24⟩, ⟨ "GCData", 108, 8, false, "", "", 32⟩, ⟨ "Str", 140, 9, false, "", "", 40⟩, ⟨ "PtrToThis", 141, 10, false, "", "", 44⟩], .agg #[.int .u64 0, .int .u64 0, .int .u32 0, .int .u8 0, .int .u8 0, .int .u8 0, .int .u8 0, .nilFunc, .pointer none, .int .i32 0, .int .i32 0], 11, 48, false⟩
def ti143 : TI := ⟨.struct #[⟨ "Size_", 12, 0, false, "", "", 0⟩, ⟨ "PtrBytes", 12, 1, false, "", "", 8⟩, ⟨ "Hash", 126, 2, false, "", "", 16⟩, ⟨ "TFlag", 137, 3, false, "", "", 20⟩, ⟨ "Align_", 5, 4, false, "", "", 21⟩, ⟨ "FieldAlign_", 5, 5, false, "", "", 22⟩, ⟨ "Kind_", 138, 6, false, "", "", 23⟩, ⟨ "Equal", 139, 7, false, "", "", 24⟩, ⟨ "GCData", 108, 8, false, "", "", 32⟩, ⟨ "Str", 140, 9, false, "", "", 40⟩, ⟨ "PtrToThis", 141, 10, false, "", "", 44⟩], .agg #[.int .u64 0, .int .u64 0, .int .u32 0, .int .u8 0, .int .u8 0, .int .u8 0, .int .u8 0, .nilFunc, .pointer none, .int .i32 0, .int .i32 0], 11, 48, false⟩
theorem tiok2 : TI.Ok Tryd.prog 2 ti2 := ⟨by kernel_rfl, by kernel_rfl, by kernel_rfl⟩
theorem tiok3 : TI.Ok Tryd.prog 3 ti3 := ⟨by kernel_rfl, by kernel_rfl, by kernel_rfl⟩
theorem tiok4 : TI.Ok Tryd.prog 4 ti4 := ⟨by kernel_rfl, by kernel_rfl, by kernel_rfl⟩
theorem tiok5 : TI.Ok Tryd.prog 5 ti5 := ⟨by kernel_rfl, by kernel_rfl, by kernel_rfl⟩
theorem tiok6 : TI.Ok Tryd.prog 6 ti6 := ⟨by kernel_rfl, by kernel_rfl, by kernel_rfl⟩
theorem tiok7 : TI.Ok Tryd.prog 7 ti7 := ⟨by kernel_rfl, by kernel_rfl, by kernel_rfl⟩
theorem tiok8 : TI.Ok Tryd.prog 8 ti8 := ⟨by kernel_rfl, by kernel_rfl, by kernel_rfl⟩
theorem tiok9 : TI.Ok Tryd.prog 9 ti9 := ⟨by kernel_rfl, by kernel_rfl, by kernel_rfl⟩
theorem tiok10 : TI.Ok Tryd.prog 10 ti10 := ⟨by kernel_rfl, by kernel_rfl, by kernel_rfl⟩
theorem tiok11 : TI.Ok Tryd.prog 11 ti11 := ⟨by kernel_rfl, by kernel_rfl, by kernel_rfl⟩
theorem tiok12 : TI.Ok Tryd.prog 12 ti12 := ⟨by kernel_rfl, by kernel_rfl, by kernel_rfl⟩
theorem tiok13 : TI.Ok Tryd.prog 13 ti13 := ⟨by kernel_rfl, by kernel_rfl, by kernel_rfl⟩
theorem tiok14 : TI.Ok Tryd.prog 14 ti14 := ⟨by kernel_rfl, by kernel_rfl, by kernel_rfl⟩
theorem tiok15 : TI.Ok Tryd.prog 15 ti15 := ⟨by kernel_rfl, by kernel_rfl, by kernel_rfl⟩
theorem tiok16 : TI.Ok Tryd.prog 16 ti16 := ⟨by kernel_rfl, by kernel_rfl, by kernel_rfl⟩
theorem tiok17 : TI.Ok Tryd.prog 17 ti17 := ⟨by kernel_rfl, by kernel_rfl, by kernel_rfl⟩
theorem tiok18 : TI.Ok Tryd.prog 18 ti18 := ⟨by kernel_rfl, by kernel_rfl, by kernel_rfl⟩
theorem tiok19 : TI.Ok Tryd.prog 19 ti19 := ⟨by kernel_rfl, by kernel_rfl, by kernel_rfl⟩
theorem tiok21 : TI.Ok Tryd.prog 21 ti21 := ⟨by kernel_rfl, by kernel_rfl, by kernel_rfl⟩
theorem tiok22 : TI.Ok Tryd.prog 22 ti22 := ⟨by kernel_rfl, by kernel_rfl, by kernel_rfl⟩
theorem tiok24 : TI.Ok Tryd.prog 24 ti24 := ⟨by kernel_rfl, by kernel_rfl, by kernel_rfl⟩
theorem tiok25 : TI.Ok Tryd.prog 25 ti25 := ⟨by kernel_rfl, by kernel_rfl, by kernel_rfl⟩
theorem tiok27 : TI.Ok Tryd.prog 27 ti27 := ⟨by kernel_rfl, by kernel_rfl, by kernel_rfl⟩
theorem tiok32 : TI.Ok Tryd.prog 32 ti32 := ⟨by kernel_rfl, by kernel_rfl, by kernel_rfl⟩
theorem tiok33 : TI.Ok Tryd.prog 33 ti33 := ⟨by kernel_rfl, by kernel_rfl, by kernel_rfl⟩
theorem tiok34 : TI.Ok Tryd.prog 34 ti34 := ⟨by kernel_rfl, by kernel_rfl, by kernel_rfl⟩
theorem tiok45 : TI.Ok Tryd.prog 45 ti45 := ⟨by kernel_rfl, by kernel_rfl, by kernel_rfl⟩
theorem tiok46 : TI.Ok Tryd.prog 46 ti46 := ⟨by kernel_rfl, by kernel_rfl, by kernel_rfl⟩
theorem tiok49 : TI.Ok Tryd.prog 49 ti49 := ⟨by kernel_rfl, by kernel_rfl, by kernel_rfl⟩
theorem tiok60 : TI.Ok Tryd.prog 60 ti60 := ⟨by kernel_rfl, by kernel_rfl, by kernel_rfl⟩
theorem tiok61 : TI.Ok Tryd.prog 61 ti61 := ⟨by kernel_rfl, by kernel_rfl, by kernel_rfl⟩
theorem tiok62 : TI.Ok Tryd.prog 62 ti62 := ⟨by kernel_rfl, by kernel_rfl, by kernel_rfl⟩
theorem tiok65 : TI.Ok Tryd.prog 65 ti65 := ⟨by kernel_rfl, by kernel_rfl, by kernel_rfl⟩
theorem tiok66 : TI.Ok Tryd.prog 66 ti66 := ⟨by kernel_rfl, by kernel_rfl, by kernel_rfl⟩
theorem tiok76 : TI.Ok Tryd.prog 76 ti76 := ⟨by kernel_rfl, by kernel_rfl, by kernel_rfl⟩
theorem tiok85 : TI.Ok Tryd.prog 85 ti85 := ⟨by kernel_rfl, by kernel_rfl, by kernel_rfl⟩
theorem tiok86 : TI.Ok Tryd.prog 86 ti86 := ⟨by kernel_rfl, by kernel_rfl, by kernel_rfl⟩
theorem tiok87 : TI.Ok Tryd.prog 87 ti87 := ⟨by kernel_rfl, by kernel_rfl, by kernel_rfl⟩
theorem tiok99 : TI.Ok Tryd.prog 99 ti99 := ⟨by kernel_rfl, by kernel_rfl, by kernel_rfl⟩
theorem tiok100 : TI.Ok Tryd.prog 100 ti100 := ⟨by kernel_rfl, by kernel_rfl, by kernel_rfl⟩
theorem tiok104 : TI.Ok Tryd.prog 104 ti104 := ⟨by kernel_rfl, by kernel_rfl, by kernel_rfl⟩
theorem tiok108 : TI.Ok Tryd.prog 108 ti108 := ⟨by kernel_rfl, by kernel_rfl, by kernel_rfl⟩
theorem tiok120 : TI.Ok Tryd.prog 120 ti120 := ⟨by kernel_rfl, by kernel_rfl, by kernel_rfl⟩
theorem tiok122 : TI.Ok Tryd.prog 122 ti122 := ⟨by kernel_rfl, by kernel_rfl, by kernel_rfl⟩
theorem tiok123 : TI.Ok Tryd.prog 123 ti123 := ⟨by kernel_rfl, by kernel_rfl, by kernel_rfl⟩
theorem tiok124 : TI.Ok Tryd.prog 124 ti124 := ⟨by kernel_rfl, by kernel_rfl, by kernel_rfl⟩
theorem tiok125 : TI.Ok Tryd.prog 125 ti125 := ⟨by kernel_rfl, by kernel_rfl, by kernel_rfl⟩
theorem tiok126 : TI.Ok Tryd.prog 126 ti126 := ⟨by kernel_rfl, by kernel_rfl, by kernel_rfl⟩
theorem tiok131 : TI.Ok Tryd.prog 131 ti131 := ⟨by kernel_rfl, by kernel_rfl, by kernel_rfl⟩
theorem tiok132 : TI.Ok Tryd.prog 132 ti132 := ⟨by kernel_rfl, by kernel_rfl, by kernel_rfl⟩
theorem tiok133 : TI.Ok Tryd.prog 133 ti133 := ⟨by kernel_rfl, by kernel_rfl, by kernel_rfl⟩
theorem tiok134 : TI.Ok Tryd.prog 134 ti134 := ⟨by kernel_rfl, by kernel_rfl, by kernel_rfl⟩
theorem tiok135 : TI.Ok Tryd.prog 135 ti135 := ⟨by kernel_rfl, by kernel_rfl, by kernel_rfl⟩
theorem tiok137 : TI.Ok Tryd.prog 137 ti137 := ⟨by kernel_rfl, by kernel_rfl, by kernel_rfl⟩
theorem tiok138 : TI.Ok Tryd.prog 138 ti138 := ⟨by kernel_rfl, by kernel_rfl, by kernel_rfl⟩
theorem tiok140 : TI.Ok Tryd.prog 140 ti140 := ⟨by kernel_rfl, by kernel_rfl, by kernel_rfl⟩
theorem tiok141 : TI.Ok Tryd.prog 141 ti141 := ⟨by kernel_rfl, by kernel_rfl, by kernel_rfl⟩
theorem tiok142 : TI.Ok Tryd.prog 142 ti142 := ⟨by kernel_rfl, by kernel_rfl, by kernel_rfl⟩
theorem tiok143 : TI.Ok Tryd.prog 143 ti143 := ⟨by kernel_rfl, by kernel_rfl, by kernel_rfl⟩
def tab : Tab := [none, none, some ti2, some ti3, some ti4, some ti5, some ti6, some ti7, some ti8, some ti9, some ti10, some ti11, some ti12, some ti13, some ti14, some ti15, some ti16, some ti17, some ti18, some ti19, none, some ti21, some ti22, none, some ti24, some ti25, none, some ti27, none, none, none, none, some ti32, some ti33, some ti34, none, none, none, none, none, none, none, none, none, none, some ti45, some ti46, none, none, some ti49, none, none, none, none, none, none, none, none, none, none, some ti60, some ti61, some ti62, none, none, some ti65, some ti66, none, none, none, none, none, none, none, none, none, some ti76, none, none, none, none, none, none, none, none, some ti85, some ti86, some ti87, none, none, none, none, none, none, none, none, none, none, none, some ti99, some ti100, none, none, none, some ti104, none, none, none, some ti108, none, none, none, none, none, none, none, none, none, none, none, some ti120, none, some ti122, some ti123, some ti124, some ti125, some ti126, none, none, none, none, some ti131, some ti132, some ti133, some ti134, some ti135, none, some ti137, some ti138, none, some ti140, some ti141, some ti142, some ti143]
theorem tab_ok : ∀ t ti, tab.at t = some ti → TI.Ok Tryd.prog t ti := by
  intro t ti h
  have h2 : tab[t]? = some (some ti) := by
    unfold Tab.at at h
    split at h
    · rename_i x h1; cases h; exact h1
    · cases h
  have al : AllOk Tryd.prog 0 tab := AllOk.no <| AllOk.no <| AllOk.one tiok2 <| AllOk.one tiok3 <| AllOk.one tiok4 <| AllOk.one tiok5 <| AllOk.one tiok6 <| AllOk.one tiok7 <| AllOk.one tiok8 <| AllOk.one tiok9 <| AllOk.one tiok10 <| AllOk.one tiok11 <| AllOk.one tiok12 <| AllOk.one tiok13 <| AllOk.one tiok14 <| AllOk.one tiok15 <| AllOk.one tiok16 <| AllOk.one tiok17 <| AllOk.one tiok18 <| AllOk.one tiok19 <| AllOk.no <| AllOk.one tiok21 <| AllOk.one tiok22 <| AllOk.no <| AllOk.one tiok24 <| AllOk.one tiok25 <| AllOk.no <| AllOk.one tiok27 <| AllOk.no <| AllOk.no <| AllOk.no <| AllOk.no <| AllOk.one tiok32 <| AllOk.one tiok33 <| AllOk.one tiok34 <| AllOk.no <| AllOk.no <| AllOk.no <| AllOk.no <| AllOk.no <| AllOk.no <| AllOk.no <| AllOk.no <| AllOk.no <| AllOk.no <| AllOk.one tiok45 <| AllOk.one tiok46 <| AllOk.no <| AllOk.no <| AllOk.one tiok49 <| AllOk.no <| AllOk.no <| AllOk.no <| AllOk.no <| AllOk.no <| AllOk.no <| AllOk.no <| AllOk.no <| AllOk.no <| AllOk.no <| AllOk.one tiok60 <| AllOk.one tiok61 <| AllOk.one tiok62 <| AllOk.no <| AllOk.no <| AllOk.one tiok65 <| AllOk.one tiok66 <| AllOk.no <| AllOk.no <| AllOk.no <| AllOk.no <| AllOk.no <| AllOk.no <| AllOk.no <| AllOk.no <| AllOk.no <| AllOk.one tiok76 <| AllOk.no <| AllOk.no <| AllOk.no <| AllOk.no <| AllOk.no <| AllOk.no <| AllOk.no <| AllOk.no <| AllOk.one tiok85 <| AllOk.one tiok86 <| AllOk.one tiok87 <| AllOk.no <| AllOk.no <| AllOk.no <| AllOk.no <| AllOk.no <| AllOk.no <| AllOk.no <| AllOk.no <| AllOk.no <| AllOk.no <| AllOk.no <| AllOk.one tiok99 <| AllOk.one tiok100 <| AllOk.no <| AllOk.no <| AllOk.no <| AllOk.one tiok104 <| AllOk.no <| AllOk.no <| AllOk.no <| AllOk.one tiok108 <| AllOk.no <| AllOk.no <| AllOk.no <| AllOk.no <| AllOk.no <| AllOk.no <| AllOk.no <| AllOk.no <| AllOk.no <| AllOk.no <| AllOk.no <| AllOk.one tiok120 <| AllOk.no <| AllOk.one tiok122 <| AllOk.one tiok123 <| AllOk.one tiok124 <| AllOk.one tiok125 <| AllOk.one tiok126 <| AllOk.no <| AllOk.no <| AllOk.no <| AllOk.no <| AllOk.one tiok131 <| AllOk.one tiok132 <| AllOk.one tiok133 <| AllOk.one tiok134 <| AllOk.one tiok135 <| AllOk.no <| AllOk.one tiok137 <| AllOk.one tiok138 <| AllOk.no <| AllOk.one tiok140 <| AllOk.one tiok141 <| AllOk.one tiok142 <| AllOk.one tiok143 <| trivial
  simpa using al.get t ti h2
noncomputable def env : Env := ⟨Tryd.prog, tab, tab_ok, by kernel_rfl⟩
end Go.Proofs.YthbeoebnhhkmiaaDoor
