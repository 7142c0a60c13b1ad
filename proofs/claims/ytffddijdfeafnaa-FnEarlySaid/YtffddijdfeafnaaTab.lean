/- The table of types of this seat's translation, for the executor; each row is shown by the kernel. Written by xtab.py. -/
import Derived.Test.YtffddijdfeafnaaProg
import Derived.Test.YtffddijdfeafnaaXe
import Derived.KernelRfl
namespace Go.Proofs.Ytffddijdfeafnaa
open Go.Xe

def ti2 : TI := ⟨.int .i64, .int .i64 0, 1, 8, false⟩
def ti3 : TI := ⟨.int .i64, .int .i64 0, 1, 8, false⟩
def ti4 : TI := ⟨.bool, .bool false, 1, 1, false⟩
def ti5 : TI := ⟨.int .u8, .int .u8 0, 1, 1, false⟩
def ti6 : TI := ⟨.int .u8, .int .u8 0, 1, 1, false⟩
def ti7 : TI := ⟨.struct #[⟨ "x", 2, 0, false, "", "runtime", 0⟩, ⟨ "y", 3, 1, false, "", "runtime", 8⟩, ⟨ "signed", 4, 2, false, "", "runtime", 16⟩, ⟨ "code", 6, 3, false, "", "runtime", 17⟩], .agg #[.int .i64 0, .int .i64 0, .bool false, .int .u8 0], 4, 24, false⟩
def ti8 : TI := ⟨.struct #[⟨ "x", 2, 0, false, "", "runtime", 0⟩, ⟨ "y", 3, 1, false, "", "runtime", 8⟩, ⟨ "signed", 4, 2, false, "", "runtime", 16⟩, ⟨ "code", 6, 3, false, "", "runtime", 17⟩], .agg #[.int .i64 0, .int .i64 0, .bool false, .int .u8 0], 4, 24, false⟩
def ti9 : TI := ⟨.string, .string ByteArray.empty, 1, 16, false⟩
def ti10 : TI := ⟨.string, .string ByteArray.empty, 1, 16, false⟩
def ti11 : TI := ⟨.string, .string ByteArray.empty, 1, 16, false⟩
def ti12 : TI := ⟨.int .u64, .int .u64 0, 1, 8, false⟩
def ti13 : TI := ⟨.struct #[⟨ "msg", 9, 0, false, "", "runtime", 0⟩, ⟨ "addr", 12, 1, false, "", "runtime", 16⟩], .agg #[.string ByteArray.empty, .int .u64 0], 2, 24, false⟩
def ti14 : TI := ⟨.struct #[⟨ "msg", 9, 0, false, "", "runtime", 0⟩, ⟨ "addr", 12, 1, false, "", "runtime", 16⟩], .agg #[.string ByteArray.empty, .int .u64 0], 2, 24, false⟩
def ti15 : TI := ⟨.pointer 144, .pointer none, 1, 8, false⟩
def ti16 : TI := ⟨.pointer 147, .pointer none, 1, 8, false⟩
def ti17 : TI := ⟨.pointer 157, .pointer none, 1, 8, false⟩
def ti18 : TI := ⟨.struct #[⟨ "typ", 17, 0, false, "", "internal/runtime/maps", 0⟩], .agg #[.pointer none], 1, 8, false⟩
def ti19 : TI := ⟨.struct #[⟨ "typ", 17, 0, false, "", "internal/runtime/maps", 0⟩], .agg #[.pointer none], 1, 8, false⟩
def ti21 : TI := ⟨.int .i32, .int .i32 0, 1, 4, false⟩
def ti22 : TI := ⟨.struct #[⟨ "Slots", 2, 0, false, "", "", 0⟩, ⟨ "Cap", 2, 1, false, "", "", 8⟩, ⟨ "Time", 2, 2, false, "", "", 16⟩], .agg #[.int .i64 0, .int .i64 0, .int .i64 0], 3, 24, false⟩
def ti23 : TI := ⟨.struct #[⟨ "Slots", 2, 0, false, "", "", 0⟩, ⟨ "Cap", 2, 1, false, "", "", 8⟩, ⟨ "Time", 2, 2, false, "", "", 16⟩], .agg #[.int .i64 0, .int .i64 0, .int .i64 0], 3, 24, true⟩
def ti25 : TI := ⟨.struct #[⟨ "Slots", 2, 0, false, "", "", 0⟩, ⟨ "Cap", 2, 1, false, "", "", 8⟩, ⟨ "Time", 2, 2, false, "", "", 16⟩], .agg #[.int .i64 0, .int .i64 0, .int .i64 0], 3, 24, true⟩
def ti28 : TI := ⟨.struct #[⟨ "Window", 2, 0, false, "", "", 0⟩, ⟨ "Min", 2, 1, false, "", "", 8⟩, ⟨ "Ratio", 2, 2, false, "", "", 16⟩, ⟨ "Cool", 2, 3, false, "", "", 24⟩, ⟨ "Quota", 2, 4, false, "", "", 32⟩], .agg #[.int .i64 0, .int .i64 0, .int .i64 0, .int .i64 0, .int .i64 0], 5, 40, false⟩
def ti29 : TI := ⟨.struct #[⟨ "Window", 2, 0, false, "", "", 0⟩, ⟨ "Min", 2, 1, false, "", "", 8⟩, ⟨ "Ratio", 2, 2, false, "", "", 16⟩, ⟨ "Cool", 2, 3, false, "", "", 24⟩, ⟨ "Quota", 2, 4, false, "", "", 32⟩], .agg #[.int .i64 0, .int .i64 0, .int .i64 0, .int .i64 0, .int .i64 0], 5, 40, true⟩
def ti31 : TI := ⟨.struct #[⟨ "Window", 2, 0, false, "", "", 0⟩, ⟨ "Min", 2, 1, false, "", "", 8⟩, ⟨ "Ratio", 2, 2, false, "", "", 16⟩, ⟨ "Cool", 2, 3, false, "", "", 24⟩, ⟨ "Quota", 2, 4, false, "", "", 32⟩], .agg #[.int .i64 0, .int .i64 0, .int .i64 0, .int .i64 0, .int .i64 0], 5, 40, true⟩
def ti34 : TI := ⟨.struct #[⟨ "At", 2, 0, false, "", "", 0⟩, ⟨ "Age", 2, 1, false, "", "", 8⟩, ⟨ "Life", 2, 2, false, "", "", 16⟩, ⟨ "Swr", 2, 3, false, "", "", 24⟩, ⟨ "Sie", 2, 4, false, "", "", 32⟩, ⟨ "Soft", 4, 5, false, "", "", 40⟩, ⟨ "NoCache", 4, 6, false, "", "", 41⟩], .agg #[.int .i64 0, .int .i64 0, .int .i64 0, .int .i64 0, .int .i64 0, .bool false, .bool false], 7, 48, false⟩
def ti35 : TI := ⟨.struct #[⟨ "At", 2, 0, false, "", "", 0⟩, ⟨ "Age", 2, 1, false, "", "", 8⟩, ⟨ "Life", 2, 2, false, "", "", 16⟩, ⟨ "Swr", 2, 3, false, "", "", 24⟩, ⟨ "Sie", 2, 4, false, "", "", 32⟩, ⟨ "Soft", 4, 5, false, "", "", 40⟩, ⟨ "NoCache", 4, 6, false, "", "", 41⟩], .agg #[.int .i64 0, .int .i64 0, .int .i64 0, .int .i64 0, .int .i64 0, .bool false, .bool false], 7, 48, true⟩
def ti37 : TI := ⟨.struct #[⟨ "At", 2, 0, false, "", "", 0⟩, ⟨ "Age", 2, 1, false, "", "", 8⟩, ⟨ "Life", 2, 2, false, "", "", 16⟩, ⟨ "Swr", 2, 3, false, "", "", 24⟩, ⟨ "Sie", 2, 4, false, "", "", 32⟩, ⟨ "Soft", 4, 5, false, "", "", 40⟩, ⟨ "NoCache", 4, 6, false, "", "", 41⟩], .agg #[.int .i64 0, .int .i64 0, .int .i64 0, .int .i64 0, .int .i64 0, .bool false, .bool false], 7, 48, true⟩
def ti40 : TI := ⟨.struct #[⟨ "Code", 2, 0, false, "", "", 0⟩, ⟨ "Value", 2, 1, false, "", "", 8⟩], .agg #[.int .i64 0, .int .i64 0], 2, 16, false⟩
def ti41 : TI := ⟨.struct #[⟨ "Code", 2, 0, false, "", "", 0⟩, ⟨ "Value", 2, 1, false, "", "", 8⟩], .agg #[.int .i64 0, .int .i64 0], 2, 16, true⟩
def ti45 : TI := ⟨.struct #[⟨ "NoStore", 4, 0, false, "", "", 0⟩, ⟨ "NoCache", 4, 1, false, "", "", 1⟩, ⟨ "Must", 4, 2, false, "", "", 2⟩, ⟨ "Life", 2, 3, false, "", "", 8⟩, ⟨ "Swr", 2, 4, false, "", "", 16⟩, ⟨ "Sie", 2, 5, false, "", "", 24⟩, ⟨ "Age", 2, 6, false, "", "", 32⟩], .agg #[.bool false, .bool false, .bool false, .int .i64 0, .int .i64 0, .int .i64 0, .int .i64 0], 7, 40, false⟩
def ti46 : TI := ⟨.struct #[⟨ "NoStore", 4, 0, false, "", "", 0⟩, ⟨ "NoCache", 4, 1, false, "", "", 1⟩, ⟨ "Must", 4, 2, false, "", "", 2⟩, ⟨ "Life", 2, 3, false, "", "", 8⟩, ⟨ "Swr", 2, 4, false, "", "", 16⟩, ⟨ "Sie", 2, 5, false, "", "", 24⟩, ⟨ "Age", 2, 6, false, "", "", 32⟩], .agg #[.bool false, .bool false, .bool false, .int .i64 0, .int .i64 0, .int .i64 0, .int .i64 0], 7, 40, true⟩
def ti48 : TI := ⟨.struct #[⟨ "NoStore", 4, 0, false, "", "", 0⟩, ⟨ "NoCache", 4, 1, false, "", "", 1⟩, ⟨ "Must", 4, 2, false, "", "", 2⟩, ⟨ "Life", 2, 3, false, "", "", 8⟩, ⟨ "Swr", 2, 4, false, "", "", 16⟩, ⟨ "Sie", 2, 5, false, "", "", 24⟩, ⟨ "Age", 2, 6, false, "", "", 32⟩], .agg #[.bool false, .bool false, .bool false, .int .i64 0, .int .i64 0, .int .i64 0, .int .i64 0], 7, 40, true⟩
def ti51 : TI := ⟨.slice 125, .slice none 0 0, 1, 24, false⟩
def ti52 : TI := ⟨.struct #[⟨ "Busy", 2, 0, false, "", "", 0⟩, ⟨ "Queue", 51, 1, false, "", "", 8⟩], .agg #[.int .i64 0, .slice none 0 0], 2, 32, false⟩
def ti53 : TI := ⟨.struct #[⟨ "Busy", 2, 0, false, "", "", 0⟩, ⟨ "Queue", 51, 1, false, "", "", 8⟩], .agg #[.int .i64 0, .slice none 0 0], 2, 32, false⟩
def ti56 : TI := ⟨.slice 104, .slice none 0 0, 1, 24, false⟩
def ti57 : TI := ⟨.struct #[⟨ "Busy", 2, 0, false, "", "", 0⟩, ⟨ "Queue", 56, 1, false, "", "", 8⟩], .agg #[.int .i64 0, .slice none 0 0], 2, 32, false⟩
def ti58 : TI := ⟨.struct #[⟨ "Busy", 2, 0, false, "", "", 0⟩, ⟨ "Queue", 56, 1, false, "", "", 8⟩], .agg #[.int .i64 0, .slice none 0 0], 2, 32, false⟩
def ti61 : TI := ⟨.slice 128, .slice none 0 0, 1, 24, false⟩
def ti62 : TI := ⟨.struct #[⟨ "State", 2, 0, false, "", "", 0⟩, ⟨ "Since", 2, 1, false, "", "", 8⟩, ⟨ "Out", 2, 2, false, "", "", 16⟩, ⟨ "Marks", 61, 3, false, "", "", 24⟩], .agg #[.int .i64 0, .int .i64 0, .int .i64 0, .slice none 0 0], 4, 48, false⟩
def ti63 : TI := ⟨.struct #[⟨ "State", 2, 0, false, "", "", 0⟩, ⟨ "Since", 2, 1, false, "", "", 8⟩, ⟨ "Out", 2, 2, false, "", "", 16⟩, ⟨ "Marks", 61, 3, false, "", "", 24⟩], .agg #[.int .i64 0, .int .i64 0, .int .i64 0, .slice none 0 0], 4, 48, false⟩
def ti66 : TI := ⟨.slice 111, .slice none 0 0, 1, 24, false⟩
def ti67 : TI := ⟨.struct #[⟨ "State", 2, 0, false, "", "", 0⟩, ⟨ "Since", 2, 1, false, "", "", 8⟩, ⟨ "Out", 2, 2, false, "", "", 16⟩, ⟨ "Marks", 66, 3, false, "", "", 24⟩], .agg #[.int .i64 0, .int .i64 0, .int .i64 0, .slice none 0 0], 4, 48, false⟩
def ti68 : TI := ⟨.struct #[⟨ "State", 2, 0, false, "", "", 0⟩, ⟨ "Since", 2, 1, false, "", "", 8⟩, ⟨ "Out", 2, 2, false, "", "", 16⟩, ⟨ "Marks", 66, 3, false, "", "", 24⟩], .agg #[.int .i64 0, .int .i64 0, .int .i64 0, .slice none 0 0], 4, 48, false⟩
def ti75 : TI := ⟨.struct #[⟨ "Code", 2, 0, false, "", "", 0⟩, ⟨ "Meta", 37, 1, false, "", "", 8⟩], .agg #[.int .i64 0, .int .i64 0, .int .i64 0, .int .i64 0, .int .i64 0, .int .i64 0, .bool false, .bool false], 8, 56, false⟩
def ti76 : TI := ⟨.struct #[⟨ "Code", 2, 0, false, "", "", 0⟩, ⟨ "Meta", 37, 1, false, "", "", 8⟩], .agg #[.int .i64 0, .int .i64 0, .int .i64 0, .int .i64 0, .int .i64 0, .int .i64 0, .bool false, .bool false], 8, 56, true⟩
def ti80 : TI := ⟨.slice 5, .slice none 0 0, 1, 24, false⟩
def ti92 : TI := ⟨.array 5 2, .agg #[.int .i64 0, .int .i64 0, .int .i64 0, .int .i64 0, .int .i64 0], 5, 40, false⟩
def ti94 : TI := ⟨.pointer 37, .pointer none, 1, 8, false⟩
def ti100 : TI := ⟨.pointer 48, .pointer none, 1, 8, false⟩
def ti103 : TI := ⟨.struct #[⟨ "Id", 2, 0, false, "", "", 0⟩, ⟨ "Due", 2, 1, false, "", "", 8⟩], .agg #[.int .i64 0, .int .i64 0], 2, 16, false⟩
def ti104 : TI := ⟨.struct #[⟨ "Id", 2, 0, false, "", "", 0⟩, ⟨ "Due", 2, 1, false, "", "", 8⟩], .agg #[.int .i64 0, .int .i64 0], 2, 16, true⟩
def ti110 : TI := ⟨.struct #[⟨ "At", 2, 0, false, "", "", 0⟩, ⟨ "Good", 4, 1, false, "", "", 8⟩], .agg #[.int .i64 0, .bool false], 2, 16, false⟩
def ti111 : TI := ⟨.struct #[⟨ "At", 2, 0, false, "", "", 0⟩, ⟨ "Good", 4, 1, false, "", "", 8⟩], .agg #[.int .i64 0, .bool false], 2, 16, true⟩
def ti118 : TI := ⟨.pointer 136, .pointer none, 1, 8, false⟩
def ti125 : TI := ⟨.struct #[⟨ "Id", 2, 0, false, "", "", 0⟩, ⟨ "Due", 2, 1, false, "", "", 8⟩], .agg #[.int .i64 0, .int .i64 0], 2, 16, true⟩
def ti128 : TI := ⟨.struct #[⟨ "At", 2, 0, false, "", "", 0⟩, ⟨ "Good", 4, 1, false, "", "", 8⟩], .agg #[.int .i64 0, .bool false], 2, 16, true⟩
def ti135 : TI := ⟨.struct #[⟨ "Code", 80, 0, false, "", "", 0⟩, ⟨ "At", 2, 1, false, "", "", 24⟩], .agg #[.slice none 0 0, .int .i64 0], 2, 32, false⟩
def ti136 : TI := ⟨.struct #[⟨ "Code", 80, 0, false, "", "", 0⟩, ⟨ "At", 2, 1, false, "", "", 24⟩], .agg #[.slice none 0 0, .int .i64 0], 2, 32, false⟩
def ti137 : TI := ⟨.slice 2, .slice none 0 0, 1, 24, false⟩
def ti143 : TI := ⟨.struct #[⟨ "_interface", 17, 0, false, "", "runtime", 0⟩, ⟨ "concrete", 17, 1, false, "", "runtime", 8⟩, ⟨ "asserted", 17, 2, false, "", "runtime", 16⟩, ⟨ "missingMethod", 9, 3, false, "", "runtime", 24⟩], .agg #[.pointer none, .pointer none, .pointer none, .string ByteArray.empty], 4, 40, false⟩
def ti144 : TI := ⟨.struct #[⟨ "_interface", 17, 0, false, "", "runtime", 0⟩, ⟨ "concrete", 17, 1, false, "", "runtime", 8⟩, ⟨ "asserted", 17, 2, false, "", "runtime", 16⟩, ⟨ "missingMethod", 9, 3, false, "", "runtime", 24⟩], .agg #[.pointer none, .pointer none, .pointer none, .string ByteArray.empty], 4, 40, false⟩
def ti145 : TI := ⟨.array 0 16, .agg #[], 0, 0, false⟩
def ti146 : TI := ⟨.struct #[⟨ "_", 145, 0, false, "", "runtime", 0⟩], .agg #[], 0, 0, false⟩
def ti147 : TI := ⟨.struct #[⟨ "_", 145, 0, false, "", "runtime", 0⟩], .agg #[], 0, 0, false⟩
def ti149 : TI := ⟨.int .u32, .int .u32 0, 1, 4, false⟩
def ti150 : TI := ⟨.int .u8, .int .u8 0, 1, 1, false⟩
def ti151 : TI := ⟨.int .u8, .int .u8 0, 1, 1, false⟩
def ti153 : TI := ⟨.pointer 5, .pointer none, 1, 8, false⟩
def ti154 : TI := ⟨.int .i32, .int .i32 0, 1, 4, false⟩
def ti155 : TI := ⟨.int .i32, .int .i32 0, 1, 4, false⟩
def ti156 : TI := ⟨.struct #[⟨ "Size_", 12, 0, false, "", "", 0⟩, ⟨ "PtrBytes", 12, 1, false, "", "", 8⟩, ⟨ "Hash", 149, 2, false, "", "", 16⟩, ⟨ "TFlag", 150, 3, false, "", "", 20⟩, ⟨ "Align_", 5, 4, false, "", "", 21⟩, ⟨ "FieldAlign_", 5, 5, false, "", "", 22⟩, ⟨ "Kind_", 151, 6, false, "", "", 23⟩, ⟨ "Equal", 152, 7, false, "", "", 24⟩, ⟨ "GCData", 153, 8, false, "", "", 32⟩, ⟨ "Str", 154, 9, false, "", "", 40⟩, ⟨ "PtrToThis", 155, 10, false, "", "", 44⟩], .agg #[.int .u64 0, .int .u64 0, .int .u32 0, .int .u8 0, .int .u8 0, .int .u8 0, .int .u8 0, .nilFunc, .pointer none, .int .i32 0, .int .i32 0], 11, 48, false⟩
def ti157 : TI := ⟨.struct #[⟨ "Size_", 12, 0, false, "", "", 0⟩, ⟨ "PtrBytes", 12, 1, false, "", "", 8⟩, ⟨ "Hash", 149, 2, false, "", "", 16⟩, ⟨ "TFlag", 150, 3, false, "", "", 20⟩, ⟨ "Align_", 5, 4, false, "", "", 21⟩, ⟨ "FieldAlign_", 5, 5, false, "", "", 22⟩, ⟨ "Kind_", 151, 6, false, "", "", 23⟩, ⟨ "Equal", 152, 7, false, "", "", 24⟩, ⟨ "GCData", 153, 8, false, "", "", 32⟩, ⟨ "Str", 154, 9, false, "", "", 40⟩, ⟨ "PtrToThis", 155, 10, false, "", "", 44⟩], .agg #[.int .u64 0, .int .u64 0, .int .u32 0, .int .u8 0, .int .u8 0, .int .u8 0, .int .u8 0, .nilFunc, .pointer none, .int .i32 0, .int .i32 0], 11, 48, false⟩
theorem tiok2 : TI.Ok Try.prog 2 ti2 := ⟨by kernel_rfl, by kernel_rfl, by kernel_rfl⟩
theorem tiok3 : TI.Ok Try.prog 3 ti3 := ⟨by kernel_rfl, by kernel_rfl, by kernel_rfl⟩
theorem tiok4 : TI.Ok Try.prog 4 ti4 := ⟨by kernel_rfl, by kernel_rfl, by kernel_rfl⟩
theorem tiok5 : TI.Ok Try.prog 5 ti5 := ⟨by kernel_rfl, by kernel_rfl, by kernel_rfl⟩
theorem tiok6 : TI.Ok Try.prog 6 ti6 := ⟨by kernel_rfl, by kernel_rfl, by kernel_rfl⟩
theorem tiok7 : TI.Ok Try.prog 7 ti7 := ⟨by kernel_rfl, by kernel_rfl, by kernel_rfl⟩
theorem tiok8 : TI.Ok Try.prog 8 ti8 := ⟨by kernel_rfl, by kernel_rfl, by kernel_rfl⟩
theorem tiok9 : TI.Ok Try.prog 9 ti9 := ⟨by kernel_rfl, by kernel_rfl, by kernel_rfl⟩
theorem tiok10 : TI.Ok Try.prog 10 ti10 := ⟨by kernel_rfl, by kernel_rfl, by kernel_rfl⟩
theorem tiok11 : TI.Ok Try.prog 11 ti11 := ⟨by kernel_rfl, by kernel_rfl, by kernel_rfl⟩
theorem tiok12 : TI.Ok Try.prog 12 ti12 := ⟨by kernel_rfl, by kernel_rfl, by kernel_rfl⟩
theorem tiok13 : TI.Ok Try.prog 13 ti13 := ⟨by kernel_rfl, by kernel_rfl, by kernel_rfl⟩
theorem tiok14 : TI.Ok Try.prog 14 ti14 := ⟨by kernel_rfl, by kernel_rfl, by kernel_rfl⟩
theorem tiok15 : TI.Ok Try.prog 15 ti15 := ⟨by kernel_rfl, by kernel_rfl, by kernel_rfl⟩
theorem tiok16 : TI.Ok Try.prog 16 ti16 := ⟨by kernel_rfl, by kernel_rfl, by kernel_rfl⟩
theorem tiok17 : TI.Ok Try.prog 17 ti17 := ⟨by kernel_rfl, by kernel_rfl, by kernel_rfl⟩
theorem tiok18 : TI.Ok Try.prog 18 ti18 := ⟨by kernel_rfl, by kernel_rfl, by kernel_rfl⟩
theorem tiok19 : TI.Ok Try.prog 19 ti19 := ⟨by kernel_rfl, by kernel_rfl, by kernel_rfl⟩
theorem tiok21 : TI.Ok Try.prog 21 ti21 := ⟨by kernel_rfl, by kernel_rfl, by kernel_rfl⟩
theorem tiok22 : TI.Ok Try.prog 22 ti22 := ⟨by kernel_rfl, by kernel_rfl, by kernel_rfl⟩
theorem tiok23 : TI.Ok Try.prog 23 ti23 := ⟨by kernel_rfl, by kernel_rfl, by kernel_rfl⟩
theorem tiok25 : TI.Ok Try.prog 25 ti25 := ⟨by kernel_rfl, by kernel_rfl, by kernel_rfl⟩
theorem tiok28 : TI.Ok Try.prog 28 ti28 := ⟨by kernel_rfl, by kernel_rfl, by kernel_rfl⟩
theorem tiok29 : TI.Ok Try.prog 29 ti29 := ⟨by kernel_rfl, by kernel_rfl, by kernel_rfl⟩
theorem tiok31 : TI.Ok Try.prog 31 ti31 := ⟨by kernel_rfl, by kernel_rfl, by kernel_rfl⟩
theorem tiok34 : TI.Ok Try.prog 34 ti34 := ⟨by kernel_rfl, by kernel_rfl, by kernel_rfl⟩
theorem tiok35 : TI.Ok Try.prog 35 ti35 := ⟨by kernel_rfl, by kernel_rfl, by kernel_rfl⟩
theorem tiok37 : TI.Ok Try.prog 37 ti37 := ⟨by kernel_rfl, by kernel_rfl, by kernel_rfl⟩
theorem tiok40 : TI.Ok Try.prog 40 ti40 := ⟨by kernel_rfl, by kernel_rfl, by kernel_rfl⟩
theorem tiok41 : TI.Ok Try.prog 41 ti41 := ⟨by kernel_rfl, by kernel_rfl, by kernel_rfl⟩
theorem tiok45 : TI.Ok Try.prog 45 ti45 := ⟨by kernel_rfl, by kernel_rfl, by kernel_rfl⟩
theorem tiok46 : TI.Ok Try.prog 46 ti46 := ⟨by kernel_rfl, by kernel_rfl, by kernel_rfl⟩
theorem tiok48 : TI.Ok Try.prog 48 ti48 := ⟨by kernel_rfl, by kernel_rfl, by kernel_rfl⟩
theorem tiok51 : TI.Ok Try.prog 51 ti51 := ⟨by kernel_rfl, by kernel_rfl, by kernel_rfl⟩
theorem tiok52 : TI.Ok Try.prog 52 ti52 := ⟨by kernel_rfl, by kernel_rfl, by kernel_rfl⟩
theorem tiok53 : TI.Ok Try.prog 53 ti53 := ⟨by kernel_rfl, by kernel_rfl, by kernel_rfl⟩
theorem tiok56 : TI.Ok Try.prog 56 ti56 := ⟨by kernel_rfl, by kernel_rfl, by kernel_rfl⟩
theorem tiok57 : TI.Ok Try.prog 57 ti57 := ⟨by kernel_rfl, by kernel_rfl, by kernel_rfl⟩
theorem tiok58 : TI.Ok Try.prog 58 ti58 := ⟨by kernel_rfl, by kernel_rfl, by kernel_rfl⟩
theorem tiok61 : TI.Ok Try.prog 61 ti61 := ⟨by kernel_rfl, by kernel_rfl, by kernel_rfl⟩
theorem tiok62 : TI.Ok Try.prog 62 ti62 := ⟨by kernel_rfl, by kernel_rfl, by kernel_rfl⟩
theorem tiok63 : TI.Ok Try.prog 63 ti63 := ⟨by kernel_rfl, by kernel_rfl, by kernel_rfl⟩
theorem tiok66 : TI.Ok Try.prog 66 ti66 := ⟨by kernel_rfl, by kernel_rfl, by kernel_rfl⟩
theorem tiok67 : TI.Ok Try.prog 67 ti67 := ⟨by kernel_rfl, by kernel_rfl, by kernel_rfl⟩
theorem tiok68 : TI.Ok Try.prog 68 ti68 := ⟨by kernel_rfl, by kernel_rfl, by kernel_rfl⟩
theorem tiok75 : TI.Ok Try.prog 75 ti75 := ⟨by kernel_rfl, by kernel_rfl, by kernel_rfl⟩
theorem tiok76 : TI.Ok Try.prog 76 ti76 := ⟨by kernel_rfl, by kernel_rfl, by kernel_rfl⟩
theorem tiok80 : TI.Ok Try.prog 80 ti80 := ⟨by kernel_rfl, by kernel_rfl, by kernel_rfl⟩
theorem tiok92 : TI.Ok Try.prog 92 ti92 := ⟨by kernel_rfl, by kernel_rfl, by kernel_rfl⟩
theorem tiok94 : TI.Ok Try.prog 94 ti94 := ⟨by kernel_rfl, by kernel_rfl, by kernel_rfl⟩
theorem tiok100 : TI.Ok Try.prog 100 ti100 := ⟨by kernel_rfl, by kernel_rfl, by kernel_rfl⟩
theorem tiok103 : TI.Ok Try.prog 103 ti103 := ⟨by kernel_rfl, by kernel_rfl, by kernel_rfl⟩
theorem tiok104 : TI.Ok Try.prog 104 ti104 := ⟨by kernel_rfl, by kernel_rfl, by kernel_rfl⟩
theorem tiok110 : TI.Ok Try.prog 110 ti110 := ⟨by kernel_rfl, by kernel_rfl, by kernel_rfl⟩
theorem tiok111 : TI.Ok Try.prog 111 ti111 := ⟨by kernel_rfl, by kernel_rfl, by kernel_rfl⟩
theorem tiok118 : TI.Ok Try.prog 118 ti118 := ⟨by kernel_rfl, by kernel_rfl, by kernel_rfl⟩
theorem tiok125 : TI.Ok Try.prog 125 ti125 := ⟨by kernel_rfl, by kernel_rfl, by kernel_rfl⟩
theorem tiok128 : TI.Ok Try.prog 128 ti128 := ⟨by kernel_rfl, by kernel_rfl, by kernel_rfl⟩
theorem tiok135 : TI.Ok Try.prog 135 ti135 := ⟨by kernel_rfl, by kernel_rfl, by kernel_rfl⟩
theorem tiok136 : TI.Ok Try.prog 136 ti136 := ⟨by kernel_rfl, by kernel_rfl, by kernel_rfl⟩
theorem tiok137 : TI.Ok Try.prog 137 ti137 := ⟨by kernel_rfl, by kernel_rfl, by kernel_rfl⟩
theorem tiok143 : TI.Ok Try.prog 143 ti143 := ⟨by kernel_rfl, by kernel_rfl, by kernel_rfl⟩
theorem tiok144 : TI.Ok Try.prog 144 ti144 := ⟨by kernel_rfl, by kernel_rfl, by kernel_rfl⟩
theorem tiok145 : TI.Ok Try.prog 145 ti145 := ⟨by kernel_rfl, by kernel_rfl, by kernel_rfl⟩
theorem tiok146 : TI.Ok Try.prog 146 ti146 := ⟨by kernel_rfl, by kernel_rfl, by kernel_rfl⟩
theorem tiok147 : TI.Ok Try.prog 147 ti147 := ⟨by kernel_rfl, by kernel_rfl, by kernel_rfl⟩
theorem tiok149 : TI.Ok Try.prog 149 ti149 := ⟨by kernel_rfl, by kernel_rfl, by kernel_rfl⟩
theorem tiok150 : TI.Ok Try.prog 150 ti150 := ⟨by kernel_rfl, by kernel_rfl, by kernel_rfl⟩
theorem tiok151 : TI.Ok Try.prog 151 ti151 := ⟨by kernel_rfl, by kernel_rfl, by kernel_rfl⟩
theorem tiok153 : TI.Ok Try.prog 153 ti153 := ⟨by kernel_rfl, by kernel_rfl, by kernel_rfl⟩
theorem tiok154 : TI.Ok Try.prog 154 ti154 := ⟨by kernel_rfl, by kernel_rfl, by kernel_rfl⟩
theorem tiok155 : TI.Ok Try.prog 155 ti155 := ⟨by kernel_rfl, by kernel_rfl, by kernel_rfl⟩
theorem tiok156 : TI.Ok Try.prog 156 ti156 := ⟨by kernel_rfl, by kernel_rfl, by kernel_rfl⟩
theorem tiok157 : TI.Ok Try.prog 157 ti157 := ⟨by kernel_rfl, by kernel_rfl, by kernel_rfl⟩
def tab : Tab := [none, none, some ti2, some ti3, some ti4, some ti5, some ti6, some ti7, some ti8, some ti9, some ti10, some ti11, some ti12, some ti13, some ti14, some ti15, some ti16, some ti17, some ti18, some ti19, none, some ti21, some ti22, some ti23, none, some ti25, none, none, some ti28, some ti29, none, some ti31, none, none, some ti34, some ti35, none, some ti37, none, none, some ti40, some ti41, none, none, none, some ti45, some ti46, none, some ti48, none, none, some ti51, some ti52, some ti53, none, none, some ti56, some ti57, some ti58, none, none, some ti61, some ti62, some ti63, none, none, some ti66, some ti67, some ti68, none, none, none, none, none, none, some ti75, some ti76, none, none, none, some ti80, none, none, none, none, none, none, none, none, none, none, none, some ti92, none, some ti94, none, none, none, none, none, some ti100, none, none, some ti103, some ti104, none, none, none, none, none, some ti110, some ti111, none, none, none, none, none, none, some ti118, none, none, none, none, none, none, some ti125, none, none, some ti128, none, none, none, none, none, none, some ti135, some ti136, some ti137, none, none, none, none, none, some ti143, some ti144, some ti145, some ti146, some ti147, none, some ti149, some ti150, some ti151, none, some ti153, some ti154, some ti155, some ti156, some ti157, none, none]
theorem tab_ok : ∀ t ti, tab.at t = some ti → TI.Ok Try.prog t ti := by
  intro t ti h
  have h2 : tab[t]? = some (some ti) := by
    unfold Tab.at at h
    split at h
    · rename_i x h1; cases h; exact h1
    · cases h
  have al : AllOk Try.prog 0 tab := AllOk.no <| AllOk.no <| AllOk.one tiok2 <| AllOk.one tiok3 <| AllOk.one tiok4 <| AllOk.one tiok5 <| AllOk.one tiok6 <| AllOk.one tiok7 <| AllOk.one tiok8 <| AllOk.one tiok9 <| AllOk.one tiok10 <| AllOk.one tiok11 <| AllOk.one tiok12 <| AllOk.one tiok13 <| AllOk.one tiok14 <| AllOk.one tiok15 <| AllOk.one tiok16 <| AllOk.one tiok17 <| AllOk.one tiok18 <| AllOk.one tiok19 <| AllOk.no <| AllOk.one tiok21 <| AllOk.one tiok22 <| AllOk.one tiok23 <| AllOk.no <| AllOk.one tiok25 <| AllOk.no <| AllOk.no <| AllOk.one tiok28 <| AllOk.one tiok29 <| AllOk.no <| AllOk.one tiok31 <| AllOk.no <| AllOk.no <| AllOk.one tiok34 <| AllOk.one tiok35 <| AllOk.no <| AllOk.one tiok37 <| AllOk.no <| AllOk.no <| AllOk.one tiok40 <| AllOk.one tiok41 <| AllOk.no <| AllOk.no <| AllOk.no <| AllOk.one tiok45 <| AllOk.one tiok46 <| AllOk.no <| AllOk.one tiok48 <| AllOk.no <| AllOk.no <| AllOk.one tiok51 <| AllOk.one tiok52 <| AllOk.one tiok53 <| AllOk.no <| AllOk.no <| AllOk.one tiok56 <| AllOk.one tiok57 <| AllOk.one tiok58 <| AllOk.no <| AllOk.no <| AllOk.one tiok61 <| AllOk.one tiok62 <| AllOk.one tiok63 <| AllOk.no <| AllOk.no <| AllOk.one tiok66 <| AllOk.one tiok67 <| AllOk.one tiok68 <| AllOk.no <| AllOk.no <| AllOk.no <| AllOk.no <| AllOk.no <| AllOk.no <| AllOk.one tiok75 <| AllOk.one tiok76 <| AllOk.no <| AllOk.no <| AllOk.no <| AllOk.one tiok80 <| AllOk.no <| AllOk.no <| AllOk.no <| AllOk.no <| AllOk.no <| AllOk.no <| AllOk.no <| AllOk.no <| AllOk.no <| AllOk.no <| AllOk.no <| AllOk.one tiok92 <| AllOk.no <| AllOk.one tiok94 <| AllOk.no <| AllOk.no <| AllOk.no <| AllOk.no <| AllOk.no <| AllOk.one tiok100 <| AllOk.no <| AllOk.no <| AllOk.one tiok103 <| AllOk.one tiok104 <| AllOk.no <| AllOk.no <| AllOk.no <| AllOk.no <| AllOk.no <| AllOk.one tiok110 <| AllOk.one tiok111 <| AllOk.no <| AllOk.no <| AllOk.no <| AllOk.no <| AllOk.no <| AllOk.no <| AllOk.one tiok118 <| AllOk.no <| AllOk.no <| AllOk.no <| AllOk.no <| AllOk.no <| AllOk.no <| AllOk.one tiok125 <| AllOk.no <| AllOk.no <| AllOk.one tiok128 <| AllOk.no <| AllOk.no <| AllOk.no <| AllOk.no <| AllOk.no <| AllOk.no <| AllOk.one tiok135 <| AllOk.one tiok136 <| AllOk.one tiok137 <| AllOk.no <| AllOk.no <| AllOk.no <| AllOk.no <| AllOk.no <| AllOk.one tiok143 <| AllOk.one tiok144 <| AllOk.one tiok145 <| AllOk.one tiok146 <| AllOk.one tiok147 <| AllOk.no <| AllOk.one tiok149 <| AllOk.one tiok150 <| AllOk.one tiok151 <| AllOk.no <| AllOk.one tiok153 <| AllOk.one tiok154 <| AllOk.one tiok155 <| AllOk.one tiok156 <| AllOk.one tiok157 <| AllOk.no <| AllOk.no <| trivial
  simpa using al.get t ti h2
noncomputable def env : Env := ⟨Try.prog, tab, tab_ok, by kernel_rfl⟩
end Go.Proofs.Ytffddijdfeafnaa
