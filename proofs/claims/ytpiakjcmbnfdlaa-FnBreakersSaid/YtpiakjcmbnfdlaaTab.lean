/- The table of types of this seat's translation, for the executor; each row is shown by the kernel. Written by xtab.py. -/
import Derived.Test.YtpiakjcmbnfdlaaProg
import Derived.Test.YtpiakjcmbnfdlaaXe
import Derived.KernelRfl
namespace Go.Proofs.Ytpiakjcmbnfdlaa
open Go.Xe

def ti2 : TI := ⟨.int .i64, .int .i64 0, 1, 8, false⟩
def ti3 : TI := ⟨.int .i64, .int .i64 0, 1, 8, false⟩
def ti4 : TI := ⟨.bool, .bool false, 1, 1, false⟩
def ti5 : TI := ⟨.int .u8, .int .u8 0, 1, 1, false⟩
def ti6 : TI := ⟨.int .u8, .int .u8 0, 1, 1, false⟩
def ti7 : TI := ⟨.struct #[⟨ "x", 2, 0, false, "", "runtime", 0⟩, ⟨ "y", 3, 1, false, "", "runtime", 8⟩, ⟨ "signed", 4, 2, false, "", "runtime", 16⟩, ⟨ "code", 6, 3, false, "", "runtime", 17⟩], .agg #[.int .i64 0, .int .i64 0, .bool false, .int .u8 0], 4, 24, false⟩
def ti8 : TI := ⟨.struct #[⟨ "x", 2, 0, false, "", "runtime", 0⟩, ⟨ "y", 3, 1, false, "", "runtime", 8⟩, ⟨ "signed", 4, 2, false, "", "runtime", 16⟩, ⟨ "code", 6, 3, false, "", "runtime", 17⟩], .agg #[.int .i64 0, .int .i64 0, .bool false, .int .u8 0], 4, 24, false⟩
def ti9 : TI := ⟨.string, .string ByteArray.empty, 1, 16, false⟩
def ti10 : TI := ⟨.string, .string ByteArray.empty, 1, 16, false⟩
def ti11 : TI := ⟨.string, .string ByteArray.empty, 1, 16, false⟩
def ti12 : TI := ⟨.int .u64, .int .u64 0, 1, 8, false⟩
def ti13 : TI := ⟨.struct #[⟨ "msg", 9, 0, false, "", "runtime", 0⟩, ⟨ "addr", 12, 1, false, "", "runtime", 16⟩], .agg #[.string ByteArray.empty, .int .u64 0], 2, 24, false⟩
def ti14 : TI := ⟨.struct #[⟨ "msg", 9, 0, false, "", "runtime", 0⟩, ⟨ "addr", 12, 1, false, "", "runtime", 16⟩], .agg #[.string ByteArray.empty, .int .u64 0], 2, 24, false⟩
def ti15 : TI := ⟨.pointer 166, .pointer none, 1, 8, false⟩
def ti16 : TI := ⟨.pointer 169, .pointer none, 1, 8, false⟩
def ti17 : TI := ⟨.pointer 179, .pointer none, 1, 8, false⟩
def ti18 : TI := ⟨.struct #[⟨ "typ", 17, 0, false, "", "internal/runtime/maps", 0⟩], .agg #[.pointer none], 1, 8, false⟩
def ti19 : TI := ⟨.struct #[⟨ "typ", 17, 0, false, "", "internal/runtime/maps", 0⟩], .agg #[.pointer none], 1, 8, false⟩
def ti21 : TI := ⟨.int .i32, .int .i32 0, 1, 4, false⟩
def ti22 : TI := ⟨.slice 145, .slice none 0 0, 1, 24, false⟩
def ti23 : TI := ⟨.struct #[⟨ "State", 2, 0, false, "", "", 0⟩, ⟨ "Since", 2, 1, false, "", "", 8⟩, ⟨ "Out", 2, 2, false, "", "", 16⟩, ⟨ "Marks", 22, 3, false, "", "", 24⟩], .agg #[.int .i64 0, .int .i64 0, .int .i64 0, .slice none 0 0], 4, 48, false⟩
def ti24 : TI := ⟨.struct #[⟨ "State", 2, 0, false, "", "", 0⟩, ⟨ "Since", 2, 1, false, "", "", 8⟩, ⟨ "Out", 2, 2, false, "", "", 16⟩, ⟨ "Marks", 22, 3, false, "", "", 24⟩], .agg #[.int .i64 0, .int .i64 0, .int .i64 0, .slice none 0 0], 4, 48, false⟩
def ti27 : TI := ⟨.slice 99, .slice none 0 0, 1, 24, false⟩
def ti28 : TI := ⟨.struct #[⟨ "State", 2, 0, false, "", "", 0⟩, ⟨ "Since", 2, 1, false, "", "", 8⟩, ⟨ "Out", 2, 2, false, "", "", 16⟩, ⟨ "Marks", 27, 3, false, "", "", 24⟩], .agg #[.int .i64 0, .int .i64 0, .int .i64 0, .slice none 0 0], 4, 48, false⟩
def ti29 : TI := ⟨.struct #[⟨ "State", 2, 0, false, "", "", 0⟩, ⟨ "Since", 2, 1, false, "", "", 8⟩, ⟨ "Out", 2, 2, false, "", "", 16⟩, ⟨ "Marks", 27, 3, false, "", "", 24⟩], .agg #[.int .i64 0, .int .i64 0, .int .i64 0, .slice none 0 0], 4, 48, false⟩
def ti33 : TI := ⟨.slice 149, .slice none 0 0, 1, 24, false⟩
def ti34 : TI := ⟨.struct #[⟨ "Busy", 2, 0, false, "", "", 0⟩, ⟨ "Queue", 33, 1, false, "", "", 8⟩], .agg #[.int .i64 0, .slice none 0 0], 2, 32, false⟩
def ti35 : TI := ⟨.struct #[⟨ "Busy", 2, 0, false, "", "", 0⟩, ⟨ "Queue", 33, 1, false, "", "", 8⟩], .agg #[.int .i64 0, .slice none 0 0], 2, 32, false⟩
def ti36 : TI := ⟨.struct #[⟨ "Slots", 2, 0, false, "", "", 0⟩, ⟨ "Cap", 2, 1, false, "", "", 8⟩, ⟨ "Time", 2, 2, false, "", "", 16⟩], .agg #[.int .i64 0, .int .i64 0, .int .i64 0], 3, 24, false⟩
def ti37 : TI := ⟨.struct #[⟨ "Slots", 2, 0, false, "", "", 0⟩, ⟨ "Cap", 2, 1, false, "", "", 8⟩, ⟨ "Time", 2, 2, false, "", "", 16⟩], .agg #[.int .i64 0, .int .i64 0, .int .i64 0], 3, 24, true⟩
def ti40 : TI := ⟨.slice 67, .slice none 0 0, 1, 24, false⟩
def ti41 : TI := ⟨.struct #[⟨ "Busy", 2, 0, false, "", "", 0⟩, ⟨ "Queue", 40, 1, false, "", "", 8⟩], .agg #[.int .i64 0, .slice none 0 0], 2, 32, false⟩
def ti42 : TI := ⟨.struct #[⟨ "Busy", 2, 0, false, "", "", 0⟩, ⟨ "Queue", 40, 1, false, "", "", 8⟩], .agg #[.int .i64 0, .slice none 0 0], 2, 32, false⟩
def ti44 : TI := ⟨.struct #[⟨ "Slots", 2, 0, false, "", "", 0⟩, ⟨ "Cap", 2, 1, false, "", "", 8⟩, ⟨ "Time", 2, 2, false, "", "", 16⟩], .agg #[.int .i64 0, .int .i64 0, .int .i64 0], 3, 24, true⟩
def ti48 : TI := ⟨.struct #[⟨ "Code", 2, 0, false, "", "", 0⟩, ⟨ "Value", 2, 1, false, "", "", 8⟩], .agg #[.int .i64 0, .int .i64 0], 2, 16, false⟩
def ti49 : TI := ⟨.struct #[⟨ "Code", 2, 0, false, "", "", 0⟩, ⟨ "Value", 2, 1, false, "", "", 8⟩], .agg #[.int .i64 0, .int .i64 0], 2, 16, true⟩
def ti52 : TI := ⟨.struct #[⟨ "Code", 2, 0, false, "", "", 0⟩, ⟨ "Bulk", 42, 1, false, "", "", 8⟩, ⟨ "Next", 2, 3, false, "", "", 40⟩], .agg #[.int .i64 0, .int .i64 0, .slice none 0 0, .int .i64 0], 4, 48, false⟩
def ti53 : TI := ⟨.struct #[⟨ "Code", 2, 0, false, "", "", 0⟩, ⟨ "Bulk", 42, 1, false, "", "", 8⟩, ⟨ "Next", 2, 3, false, "", "", 40⟩], .agg #[.int .i64 0, .int .i64 0, .slice none 0 0, .int .i64 0], 4, 48, false⟩
def ti58 : TI := ⟨.slice 5, .slice none 0 0, 1, 24, false⟩
def ti62 : TI := ⟨.struct #[⟨ "Code", 2, 0, false, "", "", 0⟩, ⟨ "Bulk", 42, 1, false, "", "", 8⟩, ⟨ "Started", 4, 3, false, "", "", 40⟩], .agg #[.int .i64 0, .int .i64 0, .slice none 0 0, .bool false], 4, 48, false⟩
def ti63 : TI := ⟨.struct #[⟨ "Code", 2, 0, false, "", "", 0⟩, ⟨ "Bulk", 42, 1, false, "", "", 8⟩, ⟨ "Started", 4, 3, false, "", "", 40⟩], .agg #[.int .i64 0, .int .i64 0, .slice none 0 0, .bool false], 4, 48, false⟩
def ti66 : TI := ⟨.struct #[⟨ "Id", 2, 0, false, "", "", 0⟩, ⟨ "Due", 2, 1, false, "", "", 8⟩], .agg #[.int .i64 0, .int .i64 0], 2, 16, false⟩
def ti67 : TI := ⟨.struct #[⟨ "Id", 2, 0, false, "", "", 0⟩, ⟨ "Due", 2, 1, false, "", "", 8⟩], .agg #[.int .i64 0, .int .i64 0], 2, 16, true⟩
def ti71 : TI := ⟨.slice 2, .slice none 0 0, 1, 24, false⟩
def ti72 : TI := ⟨.struct #[⟨ "Code", 2, 0, false, "", "", 0⟩, ⟨ "Bulk", 42, 1, false, "", "", 8⟩, ⟨ "Ids", 71, 3, false, "", "", 40⟩], .agg #[.int .i64 0, .int .i64 0, .slice none 0 0, .slice none 0 0], 4, 64, false⟩
def ti73 : TI := ⟨.struct #[⟨ "Code", 2, 0, false, "", "", 0⟩, ⟨ "Bulk", 42, 1, false, "", "", 8⟩, ⟨ "Ids", 71, 3, false, "", "", 40⟩], .agg #[.int .i64 0, .int .i64 0, .slice none 0 0, .slice none 0 0], 4, 64, false⟩
def ti78 : TI := ⟨.struct #[⟨ "Window", 2, 0, false, "", "", 0⟩, ⟨ "Min", 2, 1, false, "", "", 8⟩, ⟨ "Ratio", 2, 2, false, "", "", 16⟩, ⟨ "Cool", 2, 3, false, "", "", 24⟩, ⟨ "Quota", 2, 4, false, "", "", 32⟩], .agg #[.int .i64 0, .int .i64 0, .int .i64 0, .int .i64 0, .int .i64 0], 5, 40, false⟩
def ti79 : TI := ⟨.struct #[⟨ "Window", 2, 0, false, "", "", 0⟩, ⟨ "Min", 2, 1, false, "", "", 8⟩, ⟨ "Ratio", 2, 2, false, "", "", 16⟩, ⟨ "Cool", 2, 3, false, "", "", 24⟩, ⟨ "Quota", 2, 4, false, "", "", 32⟩], .agg #[.int .i64 0, .int .i64 0, .int .i64 0, .int .i64 0, .int .i64 0], 5, 40, true⟩
def ti82 : TI := ⟨.struct #[⟨ "Code", 2, 0, false, "", "", 0⟩, ⟨ "Breaker", 29, 1, false, "", "", 8⟩, ⟨ "Allowed", 4, 5, false, "", "", 56⟩], .agg #[.int .i64 0, .int .i64 0, .int .i64 0, .int .i64 0, .slice none 0 0, .bool false], 6, 64, false⟩
def ti83 : TI := ⟨.struct #[⟨ "Code", 2, 0, false, "", "", 0⟩, ⟨ "Breaker", 29, 1, false, "", "", 8⟩, ⟨ "Allowed", 4, 5, false, "", "", 56⟩], .agg #[.int .i64 0, .int .i64 0, .int .i64 0, .int .i64 0, .slice none 0 0, .bool false], 6, 64, false⟩
def ti86 : TI := ⟨.struct #[⟨ "Window", 2, 0, false, "", "", 0⟩, ⟨ "Min", 2, 1, false, "", "", 8⟩, ⟨ "Ratio", 2, 2, false, "", "", 16⟩, ⟨ "Cool", 2, 3, false, "", "", 24⟩, ⟨ "Quota", 2, 4, false, "", "", 32⟩], .agg #[.int .i64 0, .int .i64 0, .int .i64 0, .int .i64 0, .int .i64 0], 5, 40, true⟩
def ti98 : TI := ⟨.struct #[⟨ "At", 2, 0, false, "", "", 0⟩, ⟨ "Good", 4, 1, false, "", "", 8⟩], .agg #[.int .i64 0, .bool false], 2, 16, false⟩
def ti99 : TI := ⟨.struct #[⟨ "At", 2, 0, false, "", "", 0⟩, ⟨ "Good", 4, 1, false, "", "", 8⟩], .agg #[.int .i64 0, .bool false], 2, 16, true⟩
def ti115 : TI := ⟨.pointer 42, .pointer none, 1, 8, false⟩
def ti119 : TI := ⟨.pointer 162, .pointer none, 1, 8, false⟩
def ti137 : TI := ⟨.pointer 29, .pointer none, 1, 8, false⟩
def ti138 : TI := ⟨.pointer 79, .pointer none, 1, 8, false⟩
def ti145 : TI := ⟨.struct #[⟨ "At", 2, 0, false, "", "", 0⟩, ⟨ "Good", 4, 1, false, "", "", 8⟩], .agg #[.int .i64 0, .bool false], 2, 16, true⟩
def ti149 : TI := ⟨.struct #[⟨ "Id", 2, 0, false, "", "", 0⟩, ⟨ "Due", 2, 1, false, "", "", 8⟩], .agg #[.int .i64 0, .int .i64 0], 2, 16, true⟩
def ti161 : TI := ⟨.struct #[⟨ "Code", 58, 0, false, "", "", 0⟩, ⟨ "At", 2, 1, false, "", "", 24⟩], .agg #[.slice none 0 0, .int .i64 0], 2, 32, false⟩
def ti162 : TI := ⟨.struct #[⟨ "Code", 58, 0, false, "", "", 0⟩, ⟨ "At", 2, 1, false, "", "", 24⟩], .agg #[.slice none 0 0, .int .i64 0], 2, 32, false⟩
def ti165 : TI := ⟨.struct #[⟨ "_interface", 17, 0, false, "", "runtime", 0⟩, ⟨ "concrete", 17, 1, false, "", "runtime", 8⟩, ⟨ "asserted", 17, 2, false, "", "runtime", 16⟩, ⟨ "missingMethod", 9, 3, false, "", "runtime", 24⟩], .agg #[.pointer none, .pointer none, .pointer none, .string ByteArray.empty], 4, 40, false⟩
def ti166 : TI := ⟨.struct #[⟨ "_interface", 17, 0, false, "", "runtime", 0⟩, ⟨ "concrete", 17, 1, false, "", "runtime", 8⟩, ⟨ "asserted", 17, 2, false, "", "runtime", 16⟩, ⟨ "missingMethod", 9, 3, false, "", "runtime", 24⟩], .agg #[.pointer none, .pointer none, .pointer none, .string ByteArray.empty], 4, 40, false⟩
def ti167 : TI := ⟨.array 0 16, .agg #[], 0, 0, false⟩
def ti168 : TI := ⟨.struct #[⟨ "_", 167, 0, false, "", "runtime", 0⟩], .agg #[], 0, 0, false⟩
def ti169 : TI := ⟨.struct #[⟨ "_", 167, 0, false, "", "runtime", 0⟩], .agg #[], 0, 0, false⟩
def ti171 : TI := ⟨.int .u32, .int .u32 0, 1, 4, false⟩
def ti172 : TI := ⟨.int .u8, .int .u8 0, 1, 1, false⟩
def ti173 : TI := ⟨.int .u8, .int .u8 0, 1, 1, false⟩
def ti175 : TI := ⟨.pointer 5, .pointer none, 1, 8, false⟩
def ti176 : TI := ⟨.int .i32, .int .i32 0, 1, 4, false⟩
def ti177 : TI := ⟨.int .i32, .int .i32 0, 1, 4, false⟩
def ti178 : TI := ⟨.struct #[⟨ "Size_", 12, 0, false, "", "", 0⟩, ⟨ "PtrBytes", 12, 1, false, "", "", 8⟩, ⟨ "Hash", 171, 2, false, "", "", 16⟩, ⟨ "TFlag", 172, 3, false, "", "", 20⟩, ⟨ "Align_", 5, 4, false, "", "", 21⟩, ⟨ "FieldAlign_", 5, 5, false, "", "", 22⟩, ⟨ "Kind_", 173, 6, false, "", "", 23⟩, ⟨ "Equal", 174, 7, false, "", "", 24⟩, ⟨ "GCData", 175, 8, false, "", "", 32⟩, ⟨ "Str", 176, 9, false, "", "", 40⟩, ⟨ "PtrToThis", 177, 10, false, "", "", 44⟩], .agg #[.int .u64 0, .int .u64 0, .int .u32 0, .int .u8 0, .int .u8 0, .int .u8 0, .int .u8 0, .nilFunc, .pointer none, .int .i32 0, .int .i32 0], 11, 48, false⟩
def ti179 : TI := ⟨.struct #[⟨ "Size_", 12, 0, false, "", "", 0⟩, ⟨ "PtrBytes", 12, 1, false, "", "", 8⟩, ⟨ "Hash", 171, 2, false, "", "", 16⟩, ⟨ "TFlag", 172, 3, false, "", "", 20⟩, ⟨ "Align_", 5, 4, false, "", "", 21⟩, ⟨ "FieldAlign_", 5, 5, false, "", "", 22⟩, ⟨ "Kind_", 173, 6, false, "", "", 23⟩, ⟨ "Equal", 174, 7, false, "", "", 24⟩, ⟨ "GCData", 175, 8, false, "", "", 32⟩, ⟨ "Str", 176, 9, false, "", "", 40⟩, ⟨ "PtrToThis", 177, 10, false, "", "", 44⟩], .agg #[.int .u64 0, .int .u64 0, .int .u32 0, .int .u8 0, .int .u8 0, .int .u8 0, .int .u8 0, .nilFunc, .pointer none, .int .i32 0, .int .i32 0], 11, 48, false⟩
theorem tiok2 : TI.Ok Try.prog 2 ti2 := ⟨by kernel_rfl, by kernel_rfl, by kernel_rfl⟩
theorem tiok3 : TI.Ok Try.prog 3 ti3 := ⟨by kernel_rfl, by kernel_rfl, by kernel_rfl⟩
theorem tiok4 : TI.Ok Try.prog 4 ti4 := ⟨by kernel_rfl, by kernel_rfl, by kernel_rfl⟩
theorem tiok5 : TI.Ok Try.prog 5 ti5 := ⟨by kernel_rfl, by kernel_rfl, by kernel_rfl⟩
theorem tiok6 : TI.Ok Try.prog 6 ti6 := ⟨by kernel_rfl, by kernel_rfl, by kernel_rfl⟩
theorem tiok7 : TI.Ok Try.prog 7 ti7 := ⟨by kernel_rfl, by kernel_rfl, by kernel_rfl⟩
theorem tiok8 : TI.Ok Try.prog 8 ti8 := ⟨by kernel_rfl, by kernel_rfl, by kernel_rfl⟩
theorem tiok9 : TI.Ok Try.prog 9 ti9 := ⟨by kernel_rfl, by kernel_rfl, by kernel_rfl⟩
theorem tiok10 : TI.Ok Try.prog 10 ti10 := ⟨by kernel_rfl, by kernel_rfl, by kernel_rfl⟩
theorem tiok11 : TI.Ok Try.prog 11 ti11 := ⟨by kernel_rfl, by kernel_rfl, by kernel_rfl⟩
theorem tiok12 : TI.Ok Try.prog 12 ti12 := ⟨by kernel_rfl, by kernel_rfl, by kernel_rfl⟩
theorem tiok13 : TI.Ok Try.prog 13 ti13 := ⟨by kernel_rfl, by kernel_rfl, by kernel_rfl⟩
theorem tiok14 : TI.Ok Try.prog 14 ti14 := ⟨by kernel_rfl, by kernel_rfl, by kernel_rfl⟩
theorem tiok15 : TI.Ok Try.prog 15 ti15 := ⟨by kernel_rfl, by kernel_rfl, by kernel_rfl⟩
theorem tiok16 : TI.Ok Try.prog 16 ti16 := ⟨by kernel_rfl, by kernel_rfl, by kernel_rfl⟩
theorem tiok17 : TI.Ok Try.prog 17 ti17 := ⟨by kernel_rfl, by kernel_rfl, by kernel_rfl⟩
theorem tiok18 : TI.Ok Try.prog 18 ti18 := ⟨by kernel_rfl, by kernel_rfl, by kernel_rfl⟩
theorem tiok19 : TI.Ok Try.prog 19 ti19 := ⟨by kernel_rfl, by kernel_rfl, by kernel_rfl⟩
theorem tiok21 : TI.Ok Try.prog 21 ti21 := ⟨by kernel_rfl, by kernel_rfl, by kernel_rfl⟩
theorem tiok22 : TI.Ok Try.prog 22 ti22 := ⟨by kernel_rfl, by kernel_rfl, by kernel_rfl⟩
theorem tiok23 : TI.Ok Try.prog 23 ti23 := ⟨by kernel_rfl, by kernel_rfl, by kernel_rfl⟩
theorem tiok24 : TI.Ok Try.prog 24 ti24 := ⟨by kernel_rfl, by kernel_rfl, by kernel_rfl⟩
theorem tiok27 : TI.Ok Try.prog 27 ti27 := ⟨by kernel_rfl, by kernel_rfl, by kernel_rfl⟩
theorem tiok28 : TI.Ok Try.prog 28 ti28 := ⟨by kernel_rfl, by kernel_rfl, by kernel_rfl⟩
theorem tiok29 : TI.Ok Try.prog 29 ti29 := ⟨by kernel_rfl, by kernel_rfl, by kernel_rfl⟩
theorem tiok33 : TI.Ok Try.prog 33 ti33 := ⟨by kernel_rfl, by kernel_rfl, by kernel_rfl⟩
theorem tiok34 : TI.Ok Try.prog 34 ti34 := ⟨by kernel_rfl, by kernel_rfl, by kernel_rfl⟩
theorem tiok35 : TI.Ok Try.prog 35 ti35 := ⟨by kernel_rfl, by kernel_rfl, by kernel_rfl⟩
theorem tiok36 : TI.Ok Try.prog 36 ti36 := ⟨by kernel_rfl, by kernel_rfl, by kernel_rfl⟩
theorem tiok37 : TI.Ok Try.prog 37 ti37 := ⟨by kernel_rfl, by kernel_rfl, by kernel_rfl⟩
theorem tiok40 : TI.Ok Try.prog 40 ti40 := ⟨by kernel_rfl, by kernel_rfl, by kernel_rfl⟩
theorem tiok41 : TI.Ok Try.prog 41 ti41 := ⟨by kernel_rfl, by kernel_rfl, by kernel_rfl⟩
theorem tiok42 : TI.Ok Try.prog 42 ti42 := ⟨by kernel_rfl, by kernel_rfl, by kernel_rfl⟩
theorem tiok44 : TI.Ok Try.prog 44 ti44 := ⟨by kernel_rfl, by kernel_rfl, by kernel_rfl⟩
theorem tiok48 : TI.Ok Try.prog 48 ti48 := ⟨by kernel_rfl, by kernel_rfl, by kernel_rfl⟩
theorem tiok49 : TI.Ok Try.prog 49 ti49 := ⟨by kernel_rfl, by kernel_rfl, by kernel_rfl⟩
theorem tiok52 : TI.Ok Try.prog 52 ti52 := ⟨by kernel_rfl, by kernel_rfl, by kernel_rfl⟩
theorem tiok53 : TI.Ok Try.prog 53 ti53 := ⟨by kernel_rfl, by kernel_rfl, by kernel_rfl⟩
theorem tiok58 : TI.Ok Try.prog 58 ti58 := ⟨by kernel_rfl, by kernel_rfl, by kernel_rfl⟩
theorem tiok62 : TI.Ok Try.prog 62 ti62 := ⟨by kernel_rfl, by kernel_rfl, by kernel_rfl⟩
theorem tiok63 : TI.Ok Try.prog 63 ti63 := ⟨by kernel_rfl, by kernel_rfl, by kernel_rfl⟩
theorem tiok66 : TI.Ok Try.prog 66 ti66 := ⟨by kernel_rfl, by kernel_rfl, by kernel_rfl⟩
theorem tiok67 : TI.Ok Try.prog 67 ti67 := ⟨by kernel_rfl, by kernel_rfl, by kernel_rfl⟩
theorem tiok71 : TI.Ok Try.prog 71 ti71 := ⟨by kernel_rfl, by kernel_rfl, by kernel_rfl⟩
theorem tiok72 : TI.Ok Try.prog 72 ti72 := ⟨by kernel_rfl, by kernel_rfl, by kernel_rfl⟩
theorem tiok73 : TI.Ok Try.prog 73 ti73 := ⟨by kernel_rfl, by kernel_rfl, by kernel_rfl⟩
theorem tiok78 : TI.Ok Try.prog 78 ti78 := ⟨by kernel_rfl, by kernel_rfl, by kernel_rfl⟩
theorem tiok79 : TI.Ok Try.prog 79 ti79 := ⟨by kernel_rfl, by kernel_rfl, by kernel_rfl⟩
theorem tiok82 : TI.Ok Try.prog 82 ti82 := ⟨by kernel_rfl, by kernel_rfl, by kernel_rfl⟩
theorem tiok83 : TI.Ok Try.prog 83 ti83 := ⟨by kernel_rfl, by kernel_rfl, by kernel_rfl⟩
theorem tiok86 : TI.Ok Try.prog 86 ti86 := ⟨by kernel_rfl, by kernel_rfl, by kernel_rfl⟩
theorem tiok98 : TI.Ok Try.prog 98 ti98 := ⟨by kernel_rfl, by kernel_rfl, by kernel_rfl⟩
theorem tiok99 : TI.Ok Try.prog 99 ti99 := ⟨by kernel_rfl, by kernel_rfl, by kernel_rfl⟩
theorem tiok115 : TI.Ok Try.prog 115 ti115 := ⟨by kernel_rfl, by kernel_rfl, by kernel_rfl⟩
theorem tiok119 : TI.Ok Try.prog 119 ti119 := ⟨by kernel_rfl, by kernel_rfl, by kernel_rfl⟩
theorem tiok137 : TI.Ok Try.prog 137 ti137 := ⟨by kernel_rfl, by kernel_rfl, by kernel_rfl⟩
theorem tiok138 : TI.Ok Try.prog 138 ti138 := ⟨by kernel_rfl, by kernel_rfl, by kernel_rfl⟩
theorem tiok145 : TI.Ok Try.prog 145 ti145 := ⟨by kernel_rfl, by kernel_rfl, by kernel_rfl⟩
theorem tiok149 : TI.Ok Try.prog 149 ti149 := ⟨by kernel_rfl, by kernel_rfl, by kernel_rfl⟩
theorem tiok161 : TI.Ok Try.prog 161 ti161 := ⟨by kernel_rfl, by kernel_rfl, by kernel_rfl⟩
theorem tiok162 : TI.Ok Try.prog 162 ti162 := ⟨by kernel_rfl, by kernel_rfl, by kernel_rfl⟩
theorem tiok165 : TI.Ok Try.prog 165 ti165 := ⟨by kernel_rfl, by kernel_rfl, by kernel_rfl⟩
theorem tiok166 : TI.Ok Try.prog 166 ti166 := ⟨by kernel_rfl, by kernel_rfl, by kernel_rfl⟩
theorem tiok167 : TI.Ok Try.prog 167 ti167 := ⟨by kernel_rfl, by kernel_rfl, by kernel_rfl⟩
theorem tiok168 : TI.Ok Try.prog 168 ti168 := ⟨by kernel_rfl, by kernel_rfl, by kernel_rfl⟩
theorem tiok169 : TI.Ok Try.prog 169 ti169 := ⟨by kernel_rfl, by kernel_rfl, by kernel_rfl⟩
theorem tiok171 : TI.Ok Try.prog 171 ti171 := ⟨by kernel_rfl, by kernel_rfl, by kernel_rfl⟩
theorem tiok172 : TI.Ok Try.prog 172 ti172 := ⟨by kernel_rfl, by kernel_rfl, by kernel_rfl⟩
theorem tiok173 : TI.Ok Try.prog 173 ti173 := ⟨by kernel_rfl, by kernel_rfl, by kernel_rfl⟩
theorem tiok175 : TI.Ok Try.prog 175 ti175 := ⟨by kernel_rfl, by kernel_rfl, by kernel_rfl⟩
theorem tiok176 : TI.Ok Try.prog 176 ti176 := ⟨by kernel_rfl, by kernel_rfl, by kernel_rfl⟩
theorem tiok177 : TI.Ok Try.prog 177 ti177 := ⟨by kernel_rfl, by kernel_rfl, by kernel_rfl⟩
theorem tiok178 : TI.Ok Try.prog 178 ti178 := ⟨by kernel_rfl, by kernel_rfl, by kernel_rfl⟩
theorem tiok179 : TI.Ok Try.prog 179 ti179 := ⟨by kernel_rfl, by kernel_rfl, by kernel_rfl⟩
def tab : Tab := [none, none, some ti2, some ti3, some ti4, some ti5, some ti6, some ti7, some ti8, some ti9, some ti10, some ti11, some ti12, some ti13, some ti14, some ti15, some ti16, some ti17, some ti18, some ti19, none, some ti21, some ti22, some ti23, some ti24, none, none, some ti27, some ti28, some ti29, none, none, none, some ti33, some ti34, some ti35, some ti36, some ti37, none, none, some ti40, some ti41, some ti42, none, some ti44, none, none, none, some ti48, some ti49, none, none, some ti52, some ti53, none, none, none, none, some ti58, none, none, none, some ti62, some ti63, none, none, some ti66, some ti67, none, none, none, some ti71, some ti72, some ti73, none, none, none, none, some ti78, some ti79, none, none, some ti82, some ti83, none, none, some ti86, none, none, none, none, none, none, none, none, none, none, none, some ti98, some ti99, none, none, none, none, none, none, none, none, none, none, none, none, none, none, none, some ti115, none, none, none, some ti119, none, none, none, none, none, none, none, none, none, none, none, none, none, none, none, none, none, some ti137, some ti138, none, none, none, none, none, none, some ti145, none, none, none, some ti149, none, none, none, none, none, none, none, none, none, none, none, some ti161, some ti162, none, none, some ti165, some ti166, some ti167, some ti168, some ti169, none, some ti171, some ti172, some ti173, none, some ti175, some ti176, some ti177, some ti178, some ti179, none]
theorem tab_ok : ∀ t ti, tab.at t = some ti → TI.Ok Try.prog t ti := by
  intro t ti h
  have h2 : tab[t]? = some (some ti) := by
    unfold Tab.at at h
    split at h
    · rename_i x h1; cases h; exact h1
    · cases h
  have al : AllOk Try.prog 0 tab := AllOk.no <| AllOk.no <| AllOk.one tiok2 <| AllOk.one tiok3 <| AllOk.one tiok4 <| AllOk.one tiok5 <| AllOk.one tiok6 <| AllOk.one tiok7 <| AllOk.one tiok8 <| AllOk.one tiok9 <| AllOk.one tiok10 <| AllOk.one tiok11 <| AllOk.one tiok12 <| AllOk.one tiok13 <| AllOk.one tiok14 <| AllOk.one tiok15 <| AllOk.one tiok16 <| AllOk.one tiok17 <| AllOk.one tiok18 <| AllOk.one tiok19 <| AllOk.no <| AllOk.one tiok21 <| AllOk.one tiok22 <| AllOk.one tiok23 <| AllOk.one tiok24 <| AllOk.no <| AllOk.no <| AllOk.one tiok27 <| AllOk.one tiok28 <| AllOk.one tiok29 <| AllOk.no <| AllOk.no <| AllOk.no <| AllOk.one tiok33 <| AllOk.one tiok34 <| AllOk.one tiok35 <| AllOk.one tiok36 <| AllOk.one tiok37 <| AllOk.no <| AllOk.no <| AllOk.one tiok40 <| AllOk.one tiok41 <| AllOk.one tiok42 <| AllOk.no <| AllOk.one tiok44 <| AllOk.no <| AllOk.no <| AllOk.no <| AllOk.one tiok48 <| AllOk.one tiok49 <| AllOk.no <| AllOk.no <| AllOk.one tiok52 <| AllOk.one tiok53 <| AllOk.no <| AllOk.no <| AllOk.no <| AllOk.no <| AllOk.one tiok58 <| AllOk.no <| AllOk.no <| AllOk.no <| AllOk.one tiok62 <| AllOk.one tiok63 <| AllOk.no <| AllOk.no <| AllOk.one tiok66 <| AllOk.one tiok67 <| AllOk.no <| AllOk.no <| AllOk.no <| AllOk.one tiok71 <| AllOk.one tiok72 <| AllOk.one tiok73 <| AllOk.no <| AllOk.no <| AllOk.no <| AllOk.no <| AllOk.one tiok78 <| AllOk.one tiok79 <| AllOk.no <| AllOk.no <| AllOk.one tiok82 <| AllOk.one tiok83 <| AllOk.no <| AllOk.no <| AllOk.one tiok86 <| AllOk.no <| AllOk.no <| AllOk.no <| AllOk.no <| AllOk.no <| AllOk.no <| AllOk.no <| AllOk.no <| AllOk.no <| AllOk.no <| AllOk.no <| AllOk.one tiok98 <| AllOk.one tiok99 <| AllOk.no <| AllOk.no <| AllOk.no <| AllOk.no <| AllOk.no <| AllOk.no <| AllOk.no <| AllOk.no <| AllOk.no <| AllOk.no <| AllOk.no <| AllOk.no <| AllOk.no <| AllOk.no <| AllOk.no <| AllOk.one tiok115 <| AllOk.no <| AllOk.no <| AllOk.no <| AllOk.one tiok119 <| AllOk.no <| AllOk.no <| AllOk.no <| AllOk.no <| AllOk.no <| AllOk.no <| AllOk.no <| AllOk.no <| AllOk.no <| AllOk.no <| AllOk.no <| AllOk.no <| AllOk.no <| AllOk.no <| AllOk.no <| AllOk.no <| AllOk.no <| AllOk.one tiok137 <| AllOk.one tiok138 <| AllOk.no <| AllOk.no <| AllOk.no <| AllOk.no <| AllOk.no <| AllOk.no <| AllOk.one tiok145 <| AllOk.no <| AllOk.no <| AllOk.no <| AllOk.one tiok149 <| AllOk.no <| AllOk.no <| AllOk.no <| AllOk.no <| AllOk.no <| AllOk.no <| AllOk.no <| AllOk.no <| AllOk.no <| AllOk.no <| AllOk.no <| AllOk.one tiok161 <| AllOk.one tiok162 <| AllOk.no <| AllOk.no <| AllOk.one tiok165 <| AllOk.one tiok166 <| AllOk.one tiok167 <| AllOk.one tiok168 <| AllOk.one tiok169 <| AllOk.no <| AllOk.one tiok171 <| AllOk.one tiok172 <| AllOk.one tiok173 <| AllOk.no <| AllOk.one tiok175 <| AllOk.one tiok176 <| AllOk.one tiok177 <| AllOk.one tiok178 <| AllOk.one tiok179 <| AllOk.no <| trivial
  simpa using al.get t ti h2
noncomputable def env : Env := ⟨Try.prog, tab, tab_ok, by kernel_rfl⟩
end Go.Proofs.Ytpiakjcmbnfdlaa
