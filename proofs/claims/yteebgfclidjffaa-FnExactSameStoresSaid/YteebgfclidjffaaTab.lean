/- The table of types of this seat's translation, for the executor; each row is shown by the kernel. Written by xtab.py. -/
import Derived.Test.YteebgfclidjffaaProg
import Derived.Test.YteebgfclidjffaaXe
import Derived.KernelRfl
namespace Go.Proofs.Yteebgfclidjffaa
open Go.Xe

def ti2 : TI := ⟨.int .i64, .int .i64 0, 1, 8, false⟩
def ti3 : TI := ⟨.int .i64, .int .i64 0, 1, 8, false⟩
def ti4 : TI := ⟨.bool, .bool false, 1, 1, false⟩
def ti5 : TI := ⟨.int .u8, .int .u8 0, 1, 1, false⟩
def ti6 : TI := ⟨.int .u8, .int .u8 0, 1, 1, false⟩
def ti7 : TI := ⟨.struct #[⟨ "x", 2, 0, false, "", "runtime", 0⟩, ⟨ "y", 3, 1, false, "", "runtime", 8⟩, ⟨ "signed", 4, 2, false, "", "runtime", 16⟩, ⟨ "code", 6, 3, false, "", "runtime", 17⟩], .agg #[.int .i64 0, .int .i64 0, .bool false, .int .u8 0], 4, 24, false⟩
def ti8 : TI := ⟨.struct #[⟨ "x", 2, 0, false, "", "runtime", 0⟩, ⟨ "y", 3, 1, false, "", "runtime", 8⟩, ⟨ "signed", 4, 2, false, "", "runtime", 16⟩, ⟨ "code", 6, 3, false, "", "runtime", 17⟩], .agg #[.int .i64 0, .int .i64 0, .bool false, .int .u8 0], 4, 24, false⟩
def ti9 : TI := ⟨.string, .string ByteArray.empty, 1, 16, false⟩
def ti10 : TI := ⟨.string, .string ByteArray.empty, 1, 16, false⟩
def ti11 : TI := ⟨.string, .string ByteArray.empty, 1, 16, false⟩
def ti12 : TI := ⟨.int .u64, .int .u64 0, 1, 8, false⟩
def ti13 : TI := ⟨.struct #[⟨ "msg", 9, 0, false, "", "runtime", 0⟩, ⟨ "addr", 12, 1, false, "", "runtime", 16⟩], .agg #[.string ByteArray.empty, .int .u64 0], 2, 24, false⟩
def ti14 : TI := ⟨.struct #[⟨ "msg", 9, 0, false, "", "runtime", 0⟩, ⟨ "addr", 12, 1, false, "", "runtime", 16⟩], .agg #[.string ByteArray.empty, .int .u64 0], 2, 24, false⟩
def ti15 : TI := ⟨.pointer 71, .pointer none, 1, 8, false⟩
def ti16 : TI := ⟨.pointer 74, .pointer none, 1, 8, false⟩
def ti17 : TI := ⟨.pointer 84, .pointer none, 1, 8, false⟩
def ti18 : TI := ⟨.struct #[⟨ "typ", 17, 0, false, "", "internal/runtime/maps", 0⟩], .agg #[.pointer none], 1, 8, false⟩
def ti19 : TI := ⟨.struct #[⟨ "typ", 17, 0, false, "", "internal/runtime/maps", 0⟩], .agg #[.pointer none], 1, 8, false⟩
def ti21 : TI := ⟨.int .i32, .int .i32 0, 1, 4, false⟩
def ti22 : TI := ⟨.slice 48, .slice none 0 0, 1, 24, false⟩
def ti23 : TI := ⟨.struct #[⟨ "Budget", 2, 0, false, "", "", 0⟩, ⟨ "Guard", 2, 1, false, "", "", 8⟩, ⟨ "Trial", 22, 2, false, "", "", 16⟩, ⟨ "Kept", 22, 3, false, "", "", 40⟩], .agg #[.int .i64 0, .int .i64 0, .slice none 0 0, .slice none 0 0], 4, 64, false⟩
def ti24 : TI := ⟨.struct #[⟨ "Budget", 2, 0, false, "", "", 0⟩, ⟨ "Guard", 2, 1, false, "", "", 8⟩, ⟨ "Trial", 22, 2, false, "", "", 16⟩, ⟨ "Kept", 22, 3, false, "", "", 40⟩], .agg #[.int .i64 0, .int .i64 0, .slice none 0 0, .slice none 0 0], 4, 64, false⟩
def ti27 : TI := ⟨.slice 42, .slice none 0 0, 1, 24, false⟩
def ti28 : TI := ⟨.struct #[⟨ "Budget", 2, 0, false, "", "", 0⟩, ⟨ "Guard", 2, 1, false, "", "", 8⟩, ⟨ "Trial", 27, 2, false, "", "", 16⟩, ⟨ "Kept", 27, 3, false, "", "", 40⟩], .agg #[.int .i64 0, .int .i64 0, .slice none 0 0, .slice none 0 0], 4, 64, false⟩
def ti29 : TI := ⟨.struct #[⟨ "Budget", 2, 0, false, "", "", 0⟩, ⟨ "Guard", 2, 1, false, "", "", 8⟩, ⟨ "Trial", 27, 2, false, "", "", 16⟩, ⟨ "Kept", 27, 3, false, "", "", 40⟩], .agg #[.int .i64 0, .int .i64 0, .slice none 0 0, .slice none 0 0], 4, 64, false⟩
def ti36 : TI := ⟨.slice 54, .slice none 0 0, 1, 24, false⟩
def ti37 : TI := ⟨.slice 5, .slice none 0 0, 1, 24, false⟩
def ti38 : TI := ⟨.struct #[⟨ "At", 2, 0, false, "", "", 0⟩, ⟨ "Age", 2, 1, false, "", "", 8⟩, ⟨ "Life", 2, 2, false, "", "", 16⟩, ⟨ "Swr", 2, 3, false, "", "", 24⟩, ⟨ "Sie", 2, 4, false, "", "", 32⟩, ⟨ "Soft", 4, 5, false, "", "", 40⟩, ⟨ "NoCache", 4, 6, false, "", "", 41⟩], .agg #[.int .i64 0, .int .i64 0, .int .i64 0, .int .i64 0, .int .i64 0, .bool false, .bool false], 7, 48, false⟩
def ti39 : TI := ⟨.struct #[⟨ "At", 2, 0, false, "", "", 0⟩, ⟨ "Age", 2, 1, false, "", "", 8⟩, ⟨ "Life", 2, 2, false, "", "", 16⟩, ⟨ "Swr", 2, 3, false, "", "", 24⟩, ⟨ "Sie", 2, 4, false, "", "", 32⟩, ⟨ "Soft", 4, 5, false, "", "", 40⟩, ⟨ "NoCache", 4, 6, false, "", "", 41⟩], .agg #[.int .i64 0, .int .i64 0, .int .i64 0, .int .i64 0, .int .i64 0, .bool false, .bool false], 7, 48, true⟩
def ti40 : TI := ⟨.slice 9, .slice none 0 0, 1, 24, false⟩
def ti41 : TI := ⟨.struct #[⟨ "Key", 9, 0, false, "", "", 0⟩, ⟨ "Status", 2, 1, false, "", "", 16⟩, ⟨ "Headers", 36, 2, false, "", "", 24⟩, ⟨ "Body", 37, 3, false, "", "", 48⟩, ⟨ "Meta", 39, 4, false, "", "", 72⟩, ⟨ "Tags", 40, 11, false, "", "", 120⟩, ⟨ "Pins", 2, 12, false, "", "", 144⟩], .agg #[.string ByteArray.empty, .int .i64 0, .slice none 0 0, .slice none 0 0, .int .i64 0, .int .i64 0, .int .i64 0, .int .i64 0, .int .i64 0, .bool false, .bool false, .slice none 0 0, .int .i64 0], 13, 152, false⟩
def ti42 : TI := ⟨.struct #[⟨ "Key", 9, 0, false, "", "", 0⟩, ⟨ "Status", 2, 1, false, "", "", 16⟩, ⟨ "Headers", 36, 2, false, "", "", 24⟩, ⟨ "Body", 37, 3, false, "", "", 48⟩, ⟨ "Meta", 39, 4, false, "", "", 72⟩, ⟨ "Tags", 40, 11, false, "", "", 120⟩, ⟨ "Pins", 2, 12, false, "", "", 144⟩], .agg #[.string ByteArray.empty, .int .i64 0, .slice none 0 0, .slice none 0 0, .int .i64 0, .int .i64 0, .int .i64 0, .int .i64 0, .int .i64 0, .bool false, .bool false, .slice none 0 0, .int .i64 0], 13, 152, false⟩
def ti45 : TI := ⟨.slice 66, .slice none 0 0, 1, 24, false⟩
def ti46 : TI := ⟨.struct #[⟨ "At", 2, 0, false, "", "", 0⟩, ⟨ "Age", 2, 1, false, "", "", 8⟩, ⟨ "Life", 2, 2, false, "", "", 16⟩, ⟨ "Swr", 2, 3, false, "", "", 24⟩, ⟨ "Sie", 2, 4, false, "", "", 32⟩, ⟨ "Soft", 4, 5, false, "", "", 40⟩, ⟨ "NoCache", 4, 6, false, "", "", 41⟩], .agg #[.int .i64 0, .int .i64 0, .int .i64 0, .int .i64 0, .int .i64 0, .bool false, .bool false], 7, 48, true⟩
def ti47 : TI := ⟨.struct #[⟨ "Key", 9, 0, false, "", "", 0⟩, ⟨ "Status", 2, 1, false, "", "", 16⟩, ⟨ "Headers", 45, 2, false, "", "", 24⟩, ⟨ "Body", 37, 3, false, "", "", 48⟩, ⟨ "Meta", 46, 4, false, "", "", 72⟩, ⟨ "Tags", 40, 11, false, "", "", 120⟩, ⟨ "Pins", 2, 12, false, "", "", 144⟩], .agg #[.string ByteArray.empty, .int .i64 0, .slice none 0 0, .slice none 0 0, .int .i64 0, .int .i64 0, .int .i64 0, .int .i64 0, .int .i64 0, .bool false, .bool false, .slice none 0 0, .int .i64 0], 13, 152, false⟩
def ti48 : TI := ⟨.struct #[⟨ "Key", 9, 0, false, "", "", 0⟩, ⟨ "Status", 2, 1, false, "", "", 16⟩, ⟨ "Headers", 45, 2, false, "", "", 24⟩, ⟨ "Body", 37, 3, false, "", "", 48⟩, ⟨ "Meta", 46, 4, false, "", "", 72⟩, ⟨ "Tags", 40, 11, false, "", "", 120⟩, ⟨ "Pins", 2, 12, false, "", "", 144⟩], .agg #[.string ByteArray.empty, .int .i64 0, .slice none 0 0, .slice none 0 0, .int .i64 0, .int .i64 0, .int .i64 0, .int .i64 0, .int .i64 0, .bool false, .bool false, .slice none 0 0, .int .i64 0], 13, 152, false⟩
def ti50 : TI := ⟨.pointer 42, .pointer none, 1, 8, false⟩
def ti53 : TI := ⟨.struct #[⟨ "Name", 9, 0, false, "", "", 0⟩, ⟨ "Value", 9, 1, false, "", "", 16⟩], .agg #[.string ByteArray.empty, .string ByteArray.empty], 2, 32, false⟩
def ti54 : TI := ⟨.struct #[⟨ "Name", 9, 0, false, "", "", 0⟩, ⟨ "Value", 9, 1, false, "", "", 16⟩], .agg #[.string ByteArray.empty, .string ByteArray.empty], 2, 32, true⟩
def ti66 : TI := ⟨.struct #[⟨ "Name", 9, 0, false, "", "", 0⟩, ⟨ "Value", 9, 1, false, "", "", 16⟩], .agg #[.string ByteArray.empty, .string ByteArray.empty], 2, 32, true⟩
def ti70 : TI := ⟨.struct #[⟨ "_interface", 17, 0, false, "", "runtime", 0⟩, ⟨ "concrete", 17, 1, false, "", "runtime", 8⟩, ⟨ "asserted", 17, 2, false, "", "runtime", 16⟩, ⟨ "missingMethod", 9, 3, false, "", "runtime", 24⟩], .agg #[.pointer none, .pointer none, .pointer none, .string ByteArray.empty], 4, 40, false⟩
def ti71 : TI := ⟨.struct #[⟨ "_interface", 17, 0, false, "", "runtime", 0⟩, ⟨ "concrete", 17, 1, false, "", "runtime", 8⟩, ⟨ "asserted", 17, 2, false, "", "runtime", 16⟩, ⟨ "missingMethod", 9, 3, false, "", "runtime", 24⟩], .agg #[.pointer none, .pointer none, .pointer none, .string ByteArray.empty], 4, 40, false⟩
def ti72 : TI := ⟨.array 0 16, .agg #[], 0, 0, false⟩
def ti73 : TI := ⟨.struct #[⟨ "_", 72, 0, false, "", "runtime", 0⟩], .agg #[], 0, 0, false⟩
def ti74 : TI := ⟨.struct #[⟨ "_", 72, 0, false, "", "runtime", 0⟩], .agg #[], 0, 0, false⟩
def ti76 : TI := ⟨.int .u32, .int .u32 0, 1, 4, false⟩
def ti77 : TI := ⟨.int .u8, .int .u8 0, 1, 1, false⟩
def ti78 : TI := ⟨.int .u8, .int .u8 0, 1, 1, false⟩
def ti80 : TI := ⟨.pointer 5, .pointer none, 1, 8, false⟩
def ti81 : TI := ⟨.int .i32, .int .i32 0, 1, 4, false⟩
def ti82 : TI := ⟨.int .i32, .int .i32 0, 1, 4, false⟩
def ti83 : TI := ⟨.struct #[⟨ "Size_", 12, 0, false, "", "", 0⟩, ⟨ "PtrBytes", 12, 1, false, "", "", 8⟩, ⟨ "Hash", 76, 2, false, "", "", 16⟩, ⟨ "TFlag", 77, 3, false, "", "", 20⟩, ⟨ "Align_", 5, 4, false, "", "", 21⟩, ⟨ "FieldAlign_", 5, 5, false, "", "", 22⟩, ⟨ "Kind_", 78, 6, false, "", "", 23⟩, ⟨ "Equal", 79, 7, false, "", "", 24⟩, ⟨ "GCData", 80, 8, false, "", "", 32⟩, ⟨ "Str", 81, 9, false, "", "", 40⟩, ⟨ "PtrToThis", 82, 10, false, "", "", 44⟩], .agg #[.int .u64 0, .int .u64 0, .int .u32 0, .int .u8 0, .int .u8 0, .int .u8 0, .int .u8 0, .nilFunc, .pointer none, .int .i32 0, .int .i32 0], 11, 48, false⟩
def ti84 : TI := ⟨.struct #[⟨ "Size_", 12, 0, false, "", "", 0⟩, ⟨ "PtrBytes", 12, 1, false, "", "", 8⟩, ⟨ "Hash", 76, 2, false, "", "", 16⟩, ⟨ "TFlag", 77, 3, false, "", "", 20⟩, ⟨ "Align_", 5, 4, false, "", "", 21⟩, ⟨ "FieldAlign_", 5, 5, false, "", "", 22⟩, ⟨ "Kind_", 78, 6, false, "", "", 23⟩, ⟨ "Equal", 79, 7, false, "", "", 24⟩, ⟨ "GCData", 80, 8, false, "", "", 32⟩, ⟨ "Str", 81, 9, false, "", "", 40⟩, ⟨ "PtrToThis", 82, 10, false, "", "", 44⟩], .agg #[.int .u64 0, .int .u64 0, .int .u32 0, .int .u8 0, .int .u8 0, .int .u8 0, .int .u8 0, .nilFunc, .pointer none, .int .i32 0, .int .i32 0], 11, 48, false⟩
theorem tiok2 : TI.Ok Try.prog 2 ti2 := ⟨by kernel_rfl, by kernel_rfl, by kernel_rfl⟩
theorem tiok3 : TI.Ok Try.prog 3 ti3 := ⟨by kernel_rfl, by kernel_rfl, by kernel_rfl⟩
theorem tiok4 : TI.Ok Try.prog 4 ti4 := ⟨by kernel_rfl, by kernel_rfl, by kernel_rfl⟩
theorem tiok5 : TI.Ok Try.prog 5 ti5 := ⟨by kernel_rfl, by kernel_rfl, by kernel_rfl⟩
theorem tiok6 : TI.Ok Try.prog 6 ti6 := ⟨by kernel_rfl, by kernel_rfl, by kernel_rfl⟩
theorem tiok7 : TI.Ok Try.prog 7 ti7 := ⟨by kernel_rfl, by kernel_rfl, by kernel_rfl⟩
theorem tiok8 : TI.Ok Try.prog 8 ti8 := ⟨by kernel_rfl, by kernel_rfl, by kernel_rfl⟩
theorem tiok9 : TI.Ok Try.prog 9 ti9 := ⟨by kernel_rfl, by kernel_rfl, by kernel_rfl⟩
theorem tiok10 : TI.Ok Try.prog 10 ti10 := ⟨by kernel_rfl, by kernel_rfl, by kernel_rfl⟩
theorem tiok11 : TI.Ok Try.prog 11 ti11 := ⟨by kernel_rfl, by kernel_rfl, by kernel_rfl⟩
theorem tiok12 : TI.Ok Try.prog 12 ti12 := ⟨by kernel_rfl, by kernel_rfl, by kernel_rfl⟩
theorem tiok13 : TI.Ok Try.prog 13 ti13 := ⟨by kernel_rfl, by kernel_rfl, by kernel_rfl⟩
theorem tiok14 : TI.Ok Try.prog 14 ti14 := ⟨by kernel_rfl, by kernel_rfl, by kernel_rfl⟩
theorem tiok15 : TI.Ok Try.prog 15 ti15 := ⟨by kernel_rfl, by kernel_rfl, by kernel_rfl⟩
theorem tiok16 : TI.Ok Try.prog 16 ti16 := ⟨by kernel_rfl, by kernel_rfl, by kernel_rfl⟩
theorem tiok17 : TI.Ok Try.prog 17 ti17 := ⟨by kernel_rfl, by kernel_rfl, by kernel_rfl⟩
theorem tiok18 : TI.Ok Try.prog 18 ti18 := ⟨by kernel_rfl, by kernel_rfl, by kernel_rfl⟩
theorem tiok19 : TI.Ok Try.prog 19 ti19 := ⟨by kernel_rfl, by kernel_rfl, by kernel_rfl⟩
theorem tiok21 : TI.Ok Try.prog 21 ti21 := ⟨by kernel_rfl, by kernel_rfl, by kernel_rfl⟩
theorem tiok22 : TI.Ok Try.prog 22 ti22 := ⟨by kernel_rfl, by kernel_rfl, by kernel_rfl⟩
theorem tiok23 : TI.Ok Try.prog 23 ti23 := ⟨by kernel_rfl, by kernel_rfl, by kernel_rfl⟩
theorem tiok24 : TI.Ok Try.prog 24 ti24 := ⟨by kernel_rfl, by kernel_rfl, by kernel_rfl⟩
theorem tiok27 : TI.Ok Try.prog 27 ti27 := ⟨by kernel_rfl, by kernel_rfl, by kernel_rfl⟩
theorem tiok28 : TI.Ok Try.prog 28 ti28 := ⟨by kernel_rfl, by kernel_rfl, by kernel_rfl⟩
theorem tiok29 : TI.Ok Try.prog 29 ti29 := ⟨by kernel_rfl, by kernel_rfl, by kernel_rfl⟩
theorem tiok36 : TI.Ok Try.prog 36 ti36 := ⟨by kernel_rfl, by kernel_rfl, by kernel_rfl⟩
theorem tiok37 : TI.Ok Try.prog 37 ti37 := ⟨by kernel_rfl, by kernel_rfl, by kernel_rfl⟩
theorem tiok38 : TI.Ok Try.prog 38 ti38 := ⟨by kernel_rfl, by kernel_rfl, by kernel_rfl⟩
theorem tiok39 : TI.Ok Try.prog 39 ti39 := ⟨by kernel_rfl, by kernel_rfl, by kernel_rfl⟩
theorem tiok40 : TI.Ok Try.prog 40 ti40 := ⟨by kernel_rfl, by kernel_rfl, by kernel_rfl⟩
theorem tiok41 : TI.Ok Try.prog 41 ti41 := ⟨by kernel_rfl, by kernel_rfl, by kernel_rfl⟩
theorem tiok42 : TI.Ok Try.prog 42 ti42 := ⟨by kernel_rfl, by kernel_rfl, by kernel_rfl⟩
theorem tiok45 : TI.Ok Try.prog 45 ti45 := ⟨by kernel_rfl, by kernel_rfl, by kernel_rfl⟩
theorem tiok46 : TI.Ok Try.prog 46 ti46 := ⟨by kernel_rfl, by kernel_rfl, by kernel_rfl⟩
theorem tiok47 : TI.Ok Try.prog 47 ti47 := ⟨by kernel_rfl, by kernel_rfl, by kernel_rfl⟩
theorem tiok48 : TI.Ok Try.prog 48 ti48 := ⟨by kernel_rfl, by kernel_rfl, by kernel_rfl⟩
theorem tiok50 : TI.Ok Try.prog 50 ti50 := ⟨by kernel_rfl, by kernel_rfl, by kernel_rfl⟩
theorem tiok53 : TI.Ok Try.prog 53 ti53 := ⟨by kernel_rfl, by kernel_rfl, by kernel_rfl⟩
theorem tiok54 : TI.Ok Try.prog 54 ti54 := ⟨by kernel_rfl, by kernel_rfl, by kernel_rfl⟩
theorem tiok66 : TI.Ok Try.prog 66 ti66 := ⟨by kernel_rfl, by kernel_rfl, by kernel_rfl⟩
theorem tiok70 : TI.Ok Try.prog 70 ti70 := ⟨by kernel_rfl, by kernel_rfl, by kernel_rfl⟩
theorem tiok71 : TI.Ok Try.prog 71 ti71 := ⟨by kernel_rfl, by kernel_rfl, by kernel_rfl⟩
theorem tiok72 : TI.Ok Try.prog 72 ti72 := ⟨by kernel_rfl, by kernel_rfl, by kernel_rfl⟩
theorem tiok73 : TI.Ok Try.prog 73 ti73 := ⟨by kernel_rfl, by kernel_rfl, by kernel_rfl⟩
theorem tiok74 : TI.Ok Try.prog 74 ti74 := ⟨by kernel_rfl, by kernel_rfl, by kernel_rfl⟩
theorem tiok76 : TI.Ok Try.prog 76 ti76 := ⟨by kernel_rfl, by kernel_rfl, by kernel_rfl⟩
theorem tiok77 : TI.Ok Try.prog 77 ti77 := ⟨by kernel_rfl, by kernel_rfl, by kernel_rfl⟩
theorem tiok78 : TI.Ok Try.prog 78 ti78 := ⟨by kernel_rfl, by kernel_rfl, by kernel_rfl⟩
theorem tiok80 : TI.Ok Try.prog 80 ti80 := ⟨by kernel_rfl, by kernel_rfl, by kernel_rfl⟩
theorem tiok81 : TI.Ok Try.prog 81 ti81 := ⟨by kernel_rfl, by kernel_rfl, by kernel_rfl⟩
theorem tiok82 : TI.Ok Try.prog 82 ti82 := ⟨by kernel_rfl, by kernel_rfl, by kernel_rfl⟩
theorem tiok83 : TI.Ok Try.prog 83 ti83 := ⟨by kernel_rfl, by kernel_rfl, by kernel_rfl⟩
theorem tiok84 : TI.Ok Try.prog 84 ti84 := ⟨by kernel_rfl, by kernel_rfl, by kernel_rfl⟩
def tab : Tab := [none, none, some ti2, some ti3, some ti4, some ti5, some ti6, some ti7, some ti8, some ti9, some ti10, some ti11, some ti12, some ti13, some ti14, some ti15, some ti16, some ti17, some ti18, some ti19, none, some ti21, some ti22, some ti23, some ti24, none, none, some ti27, some ti28, some ti29, none, none, none, none, none, none, some ti36, some ti37, some ti38, some ti39, some ti40, some ti41, some ti42, none, none, some ti45, some ti46, some ti47, some ti48, none, some ti50, none, none, some ti53, some ti54, none, none, none, none, none, none, none, none, none, none, none, some ti66, none, none, none, some ti70, some ti71, some ti72, some ti73, some ti74, none, some ti76, some ti77, some ti78, none, some ti80, some ti81, some ti82, some ti83, some ti84, none, none]
theorem tab_ok : ∀ t ti, tab.at t = some ti → TI.Ok Try.prog t ti := by
  intro t ti h
  have h2 : tab[t]? = some (some ti) := by
    unfold Tab.at at h
    split at h
    · rename_i x h1; cases h; exact h1
    · cases h
  have al : AllOk Try.prog 0 tab := AllOk.no <| AllOk.no <| AllOk.one tiok2 <| AllOk.one tiok3 <| AllOk.one tiok4 <| AllOk.one tiok5 <| AllOk.one tiok6 <| AllOk.one tiok7 <| AllOk.one tiok8 <| AllOk.one tiok9 <| AllOk.one tiok10 <| AllOk.one tiok11 <| AllOk.one tiok12 <| AllOk.one tiok13 <| AllOk.one tiok14 <| AllOk.one tiok15 <| AllOk.one tiok16 <| AllOk.one tiok17 <| AllOk.one tiok18 <| AllOk.one tiok19 <| AllOk.no <| AllOk.one tiok21 <| AllOk.one tiok22 <| AllOk.one tiok23 <| AllOk.one tiok24 <| AllOk.no <| AllOk.no <| AllOk.one tiok27 <| AllOk.one tiok28 <| AllOk.one tiok29 <| AllOk.no <| AllOk.no <| AllOk.no <| AllOk.no <| AllOk.no <| AllOk.no <| AllOk.one tiok36 <| AllOk.one tiok37 <| AllOk.one tiok38 <| AllOk.one tiok39 <| AllOk.one tiok40 <| AllOk.one tiok41 <| AllOk.one tiok42 <| AllOk.no <| AllOk.no <| AllOk.one tiok45 <| AllOk.one tiok46 <| AllOk.one tiok47 <| AllOk.one tiok48 <| AllOk.no <| AllOk.one tiok50 <| AllOk.no <| AllOk.no <| AllOk.one tiok53 <| AllOk.one tiok54 <| AllOk.no <| AllOk.no <| AllOk.no <| AllOk.no <| AllOk.no <| AllOk.no <| AllOk.no <| AllOk.no <| AllOk.no <| AllOk.no <| AllOk.no <| AllOk.one tiok66 <| AllOk.no <| AllOk.no <| AllOk.no <| AllOk.one tiok70 <| AllOk.one tiok71 <| AllOk.one tiok72 <| AllOk.one tiok73 <| AllOk.one tiok74 <| AllOk.no <| AllOk.one tiok76 <| AllOk.one tiok77 <| AllOk.one tiok78 <| AllOk.no <| AllOk.one tiok80 <| AllOk.one tiok81 <| AllOk.one tiok82 <| AllOk.one tiok83 <| AllOk.one tiok84 <| AllOk.no <| AllOk.no <| trivial
  simpa using al.get t ti h2
noncomputable def env : Env := ⟨Try.prog, tab, tab_ok, by kernel_rfl⟩
end Go.Proofs.Yteebgfclidjffaa
