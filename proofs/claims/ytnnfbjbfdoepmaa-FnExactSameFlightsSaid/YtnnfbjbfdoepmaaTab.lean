/- The table of types of this seat's translation, for the executor; each row is shown by the kernel. Written by xtab.py. -/
import Derived.Test.YtnnfbjbfdoepmaaProg
import Derived.Test.YtnnfbjbfdoepmaaXe
import Derived.KernelRfl
namespace Go.Proofs.Ytnnfbjbfdoepmaa
open Go.Xe

def ti2 : TI := ⟨.int .i64, .int .i64 0, 1, 8, false⟩
def ti3 : TI := ⟨.int .i64, .int .i64 0, 1, 8, false⟩
def ti4 : TI := ⟨.bool, .bool false, 1, 1, false⟩
def ti5 : TI := ⟨.int .u8, .int .u8 0, 1, 1, false⟩
def ti6 : TI := ⟨.int .u8, .int .u8 0, 1, 1, false⟩
def ti7 : TI := ⟨.struct #[⟨ "x", 2, 0, false, "", "runtime", 0⟩, ⟨ "y", 3, 1, false, "", "runtime", 8⟩, ⟨ "signed", 4, 2, false, "", "runtime", 16⟩, ⟨ "code", 6, 3, false, "", "runtime", 17⟩], .agg #[.int .i64 0, .int .i64 0, .bool false, .int .u8 0], 4, 24, false⟩
def ti8 : TI := ⟨.struct #[⟨ "x", 2, 0, false, "", "runtime", 0⟩, ⟨ "y", 3, 1, false, "", "runtime", 8⟩, ⟨ "signed", 4, 2, false, "", "runtime", 16⟩, ⟨ "code", 6, 3, false, "", "runtime", 17⟩], .agg #[.int .i64 0, .int .i64 0, .bool false, .int .u8 0], 4, 24, false⟩
def ti9 : TI := ⟨.string, .string ByteArray.empty, 1, 16, false⟩
def ti10 : TI := ⟨.string, .string ByteArray.empty, 1, 16, false⟩
def ti11 : TI := ⟨.string, .string ByteArray.empty, 1, 16, false⟩
def ti12 : TI := ⟨.int .u64, .int .u64 0, 1, 8, false⟩
def ti13 : TI := ⟨.struct #[⟨ "msg", 9, 0, false, "", "runtime", 0⟩, ⟨ "addr", 12, 1, false, "", "runtime", 16⟩], .agg #[.string ByteArray.empty, .int .u64 0], 2, 24, false⟩
def ti14 : TI := ⟨.struct #[⟨ "msg", 9, 0, false, "", "runtime", 0⟩, ⟨ "addr", 12, 1, false, "", "runtime", 16⟩], .agg #[.string ByteArray.empty, .int .u64 0], 2, 24, false⟩
def ti15 : TI := ⟨.pointer 66, .pointer none, 1, 8, false⟩
def ti16 : TI := ⟨.pointer 69, .pointer none, 1, 8, false⟩
def ti17 : TI := ⟨.pointer 79, .pointer none, 1, 8, false⟩
def ti18 : TI := ⟨.struct #[⟨ "typ", 17, 0, false, "", "internal/runtime/maps", 0⟩], .agg #[.pointer none], 1, 8, false⟩
def ti19 : TI := ⟨.struct #[⟨ "typ", 17, 0, false, "", "internal/runtime/maps", 0⟩], .agg #[.pointer none], 1, 8, false⟩
def ti21 : TI := ⟨.int .i32, .int .i32 0, 1, 4, false⟩
def ti22 : TI := ⟨.slice 34, .slice none 0 0, 1, 24, false⟩
def ti25 : TI := ⟨.slice 40, .slice none 0 0, 1, 24, false⟩
def ti29 : TI := ⟨.slice 61, .slice none 0 0, 1, 24, false⟩
def ti30 : TI := ⟨.struct #[⟨ "Method", 9, 0, false, "", "", 0⟩, ⟨ "Host", 9, 1, false, "", "", 16⟩, ⟨ "Path", 9, 2, false, "", "", 32⟩, ⟨ "Headers", 29, 3, false, "", "", 48⟩], .agg #[.string ByteArray.empty, .string ByteArray.empty, .string ByteArray.empty, .slice none 0 0], 4, 72, false⟩
def ti31 : TI := ⟨.struct #[⟨ "Method", 9, 0, false, "", "", 0⟩, ⟨ "Host", 9, 1, false, "", "", 16⟩, ⟨ "Path", 9, 2, false, "", "", 32⟩, ⟨ "Headers", 29, 3, false, "", "", 48⟩], .agg #[.string ByteArray.empty, .string ByteArray.empty, .string ByteArray.empty, .slice none 0 0], 4, 72, false⟩
def ti32 : TI := ⟨.slice 58, .slice none 0 0, 1, 24, false⟩
def ti33 : TI := ⟨.struct #[⟨ "Id", 2, 0, false, "", "", 0⟩, ⟨ "Key", 9, 1, false, "", "", 8⟩, ⟨ "Back", 4, 2, false, "", "", 24⟩, ⟨ "Out", 4, 3, false, "", "", 25⟩, ⟨ "Due", 2, 4, false, "", "", 32⟩, ⟨ "Doomed", 4, 5, false, "", "", 40⟩, ⟨ "Get", 31, 6, false, "", "", 48⟩, ⟨ "Waiters", 32, 10, false, "", "", 120⟩], .agg #[.int .i64 0, .string ByteArray.empty, .bool false, .bool false, .int .i64 0, .bool false, .string ByteArray.empty, .string ByteArray.empty, .string ByteArray.empty, .slice none 0 0, .slice none 0 0], 11, 144, false⟩
def ti34 : TI := ⟨.struct #[⟨ "Id", 2, 0, false, "", "", 0⟩, ⟨ "Key", 9, 1, false, "", "", 8⟩, ⟨ "Back", 4, 2, false, "", "", 24⟩, ⟨ "Out", 4, 3, false, "", "", 25⟩, ⟨ "Due", 2, 4, false, "", "", 32⟩, ⟨ "Doomed", 4, 5, false, "", "", 40⟩, ⟨ "Get", 31, 6, false, "", "", 48⟩, ⟨ "Waiters", 32, 10, false, "", "", 120⟩], .agg #[.int .i64 0, .string ByteArray.empty, .bool false, .bool false, .int .i64 0, .bool false, .string ByteArray.empty, .string ByteArray.empty, .string ByteArray.empty, .slice none 0 0, .slice none 0 0], 11, 144, false⟩
def ti35 : TI := ⟨.slice 55, .slice none 0 0, 1, 24, false⟩
def ti36 : TI := ⟨.struct #[⟨ "Method", 9, 0, false, "", "", 0⟩, ⟨ "Host", 9, 1, false, "", "", 16⟩, ⟨ "Path", 9, 2, false, "", "", 32⟩, ⟨ "Headers", 35, 3, false, "", "", 48⟩], .agg #[.string ByteArray.empty, .string ByteArray.empty, .string ByteArray.empty, .slice none 0 0], 4, 72, false⟩
def ti37 : TI := ⟨.struct #[⟨ "Method", 9, 0, false, "", "", 0⟩, ⟨ "Host", 9, 1, false, "", "", 16⟩, ⟨ "Path", 9, 2, false, "", "", 32⟩, ⟨ "Headers", 35, 3, false, "", "", 48⟩], .agg #[.string ByteArray.empty, .string ByteArray.empty, .string ByteArray.empty, .slice none 0 0], 4, 72, false⟩
def ti38 : TI := ⟨.slice 50, .slice none 0 0, 1, 24, false⟩
def ti39 : TI := ⟨.struct #[⟨ "Id", 2, 0, false, "", "", 0⟩, ⟨ "Key", 9, 1, false, "", "", 8⟩, ⟨ "Back", 4, 2, false, "", "", 24⟩, ⟨ "Out", 4, 3, false, "", "", 25⟩, ⟨ "Due", 2, 4, false, "", "", 32⟩, ⟨ "Doomed", 4, 5, false, "", "", 40⟩, ⟨ "Get", 37, 6, false, "", "", 48⟩, ⟨ "Waiters", 38, 10, false, "", "", 120⟩], .agg #[.int .i64 0, .string ByteArray.empty, .bool false, .bool false, .int .i64 0, .bool false, .string ByteArray.empty, .string ByteArray.empty, .string ByteArray.empty, .slice none 0 0, .slice none 0 0], 11, 144, false⟩
def ti40 : TI := ⟨.struct #[⟨ "Id", 2, 0, false, "", "", 0⟩, ⟨ "Key", 9, 1, false, "", "", 8⟩, ⟨ "Back", 4, 2, false, "", "", 24⟩, ⟨ "Out", 4, 3, false, "", "", 25⟩, ⟨ "Due", 2, 4, false, "", "", 32⟩, ⟨ "Doomed", 4, 5, false, "", "", 40⟩, ⟨ "Get", 37, 6, false, "", "", 48⟩, ⟨ "Waiters", 38, 10, false, "", "", 120⟩], .agg #[.int .i64 0, .string ByteArray.empty, .bool false, .bool false, .int .i64 0, .bool false, .string ByteArray.empty, .string ByteArray.empty, .string ByteArray.empty, .slice none 0 0, .slice none 0 0], 11, 144, false⟩
def ti49 : TI := ⟨.struct #[⟨ "Req", 2, 0, false, "", "", 0⟩, ⟨ "Head", 4, 1, false, "", "", 8⟩, ⟨ "Due", 2, 2, false, "", "", 16⟩, ⟨ "Late", 4, 3, false, "", "", 24⟩], .agg #[.int .i64 0, .bool false, .int .i64 0, .bool false], 4, 32, false⟩
def ti50 : TI := ⟨.struct #[⟨ "Req", 2, 0, false, "", "", 0⟩, ⟨ "Head", 4, 1, false, "", "", 8⟩, ⟨ "Due", 2, 2, false, "", "", 16⟩, ⟨ "Late", 4, 3, false, "", "", 24⟩], .agg #[.int .i64 0, .bool false, .int .i64 0, .bool false], 4, 32, true⟩
def ti54 : TI := ⟨.struct #[⟨ "Name", 9, 0, false, "", "", 0⟩, ⟨ "Value", 9, 1, false, "", "", 16⟩], .agg #[.string ByteArray.empty, .string ByteArray.empty], 2, 32, false⟩
def ti55 : TI := ⟨.struct #[⟨ "Name", 9, 0, false, "", "", 0⟩, ⟨ "Value", 9, 1, false, "", "", 16⟩], .agg #[.string ByteArray.empty, .string ByteArray.empty], 2, 32, true⟩
def ti58 : TI := ⟨.struct #[⟨ "Req", 2, 0, false, "", "", 0⟩, ⟨ "Head", 4, 1, false, "", "", 8⟩, ⟨ "Due", 2, 2, false, "", "", 16⟩, ⟨ "Late", 4, 3, false, "", "", 24⟩], .agg #[.int .i64 0, .bool false, .int .i64 0, .bool false], 4, 32, true⟩
def ti61 : TI := ⟨.struct #[⟨ "Name", 9, 0, false, "", "", 0⟩, ⟨ "Value", 9, 1, false, "", "", 16⟩], .agg #[.string ByteArray.empty, .string ByteArray.empty], 2, 32, true⟩
def ti65 : TI := ⟨.struct #[⟨ "_interface", 17, 0, false, "", "runtime", 0⟩, ⟨ "concrete", 17, 1, false, "", "runtime", 8⟩, ⟨ "asserted", 17, 2, false, "", "runtime", 16⟩, ⟨ "missingMethod", 9, 3, false, "", "runtime", 24⟩], .agg #[.pointer none, .pointer none, .pointer none, .string ByteArray.empty], 4, 40, false⟩
def ti66 : TI := ⟨.struct #[⟨ "_interface", 17, 0, false, "", "runtime", 0⟩, ⟨ "concrete", 17, 1, false, "", "runtime", 8⟩, ⟨ "asserted", 17, 2, false, "", "runtime", 16⟩, ⟨ "missingMethod", 9, 3, false, "", "runtime", 24⟩], .agg #[.pointer none, .pointer none, .pointer none, .string ByteArray.empty], 4, 40, false⟩
def ti67 : TI := ⟨.array 0 16, .agg #[], 0, 0, false⟩
def ti68 : TI := ⟨.struct #[⟨ "_", 67, 0, false, "", "runtime", 0⟩], .agg #[], 0, 0, false⟩
def ti69 : TI := ⟨.struct #[⟨ "_", 67, 0, false, "", "runtime", 0⟩], .agg #[], 0, 0, false⟩
def ti71 : TI := ⟨.int .u32, .int .u32 0, 1, 4, false⟩
def ti72 : TI := ⟨.int .u8, .int .u8 0, 1, 1, false⟩
def ti73 : TI := ⟨.int .u8, .int .u8 0, 1, 1, false⟩
def ti75 : TI := ⟨.pointer 5, .pointer none, 1, 8, false⟩
def ti76 : TI := ⟨.int .i32, .int .i32 0, 1, 4, false⟩
def ti77 : TI := ⟨.int .i32, .int .i32 0, 1, 4, false⟩
def ti78 : TI := ⟨.struct #[⟨ "Size_", 12, 0, false, "", "", 0⟩, ⟨ "PtrBytes", 12, 1, false, "", "", 8⟩, ⟨ "Hash", 71, 2, false, "", "", 16⟩, ⟨ "TFlag", 72, 3, false, "", "", 20⟩, ⟨ "Align_", 5, 4, false, "", "", 21⟩, ⟨ "FieldAlign_", 5, 5, false, "", "", 22⟩, ⟨ "Kind_", 73, 6, false, "", "", 23⟩, ⟨ "Equal", 74, 7, false, "", "", 24⟩, ⟨ "GCData", 75, 8, false, "", "", 32⟩, ⟨ "Str", 76, 9, false, "", "", 40⟩, ⟨ "PtrToThis", 77, 10, false, "", "", 44⟩], .agg #[.int .u64 0, .int .u64 0, .int .u32 0, .int .u8 0, .int .u8 0, .int .u8 0, .int .u8 0, .nilFunc, .pointer none, .int .i32 0, .int .i32 0], 11, 48, false⟩
def ti79 : TI := ⟨.struct #[⟨ "Size_", 12, 0, false, "", "", 0⟩, ⟨ "PtrBytes", 12, 1, false, "", "", 8⟩, ⟨ "Hash", 71, 2, false, "", "", 16⟩, ⟨ "TFlag", 72, 3, false, "", "", 20⟩, ⟨ "Align_", 5, 4, false, "", "", 21⟩, ⟨ "FieldAlign_", 5, 5, false, "", "", 22⟩, ⟨ "Kind_", 73, 6, false, "", "", 23⟩, ⟨ "Equal", 74, 7, false, "", "", 24⟩, ⟨ "GCData", 75, 8, false, "", "", 32⟩, ⟨ "Str", 76, 9, false, "", "", 40⟩, ⟨ "PtrToThis", 77, 10, false, "", "", 44⟩], .agg #[.int .u64 0, .int .u64 0, .int .u32 0, .int .u8 0, .int .u8 0, .int .u8 0, .int .u8 0, .nilFunc, .pointer none, .int .i32 0, .int .i32 0], 11, 48, false⟩
theorem tiok2 : TI.Ok Try.prog 2 ti2 := ⟨by kernel_rfl, by kernel_rfl, by kernel_rfl⟩
theorem tiok3 : TI.Ok Try.prog 3 ti3 := ⟨by kernel_rfl, by kernel_rfl, by kernel_rfl⟩
theorem tiok4 : TI.Ok Try.prog 4 ti4 := ⟨by kernel_rfl, by kernel_rfl, by kernel_rfl⟩
theorem tiok5 : TI.Ok Try.prog 5 ti5 := ⟨by kernel_rfl, by kernel_rfl, by kernel_rfl⟩
theorem tiok6 : TI.Ok Try.prog 6 ti6 := ⟨by kernel_rfl, by kernel_rfl, by kernel_rfl⟩
theorem tiok7 : TI.Ok Try.prog 7 ti7 := ⟨by kernel_rfl, by kernel_rfl, by kernel_rfl⟩
theorem tiok8 : TI.Ok Try.prog 8 ti8 := ⟨by kernel_rfl, by kernel_rfl, by kernel_rfl⟩
theorem tiok9 : TI.Ok Try.prog 9 ti9 := ⟨by kernel_rfl, by kernel_rfl, by kernel_rfl⟩
theorem tiok10 : TI.Ok Try.prog 10 ti10 := ⟨by kernel_rfl, by kernel_rfl, by kernel_rfl⟩
theorem tiok11 : TI.Ok Try.prog 11 ti11 := ⟨by kernel_rfl, by kernel_rfl, by kernel_rfl⟩
theorem tiok12 : TI.Ok Try.prog 12 ti12 := ⟨by kernel_rfl, by kernel_rfl, by kernel_rfl⟩
theorem tiok13 : TI.Ok Try.prog 13 ti13 := ⟨by kernel_rfl, by kernel_rfl, by kernel_rfl⟩
theorem tiok14 : TI.Ok Try.prog 14 ti14 := ⟨by kernel_rfl, by kernel_rfl, by kernel_rfl⟩
theorem tiok15 : TI.Ok Try.prog 15 ti15 := ⟨by kernel_rfl, by kernel_rfl, by kernel_rfl⟩
theorem tiok16 : TI.Ok Try.prog 16 ti16 := ⟨by kernel_rfl, by kernel_rfl, by kernel_rfl⟩
theorem tiok17 : TI.Ok Try.prog 17 ti17 := ⟨by kernel_rfl, by kernel_rfl, by kernel_rfl⟩
theorem tiok18 : TI.Ok Try.prog 18 ti18 := ⟨by kernel_rfl, by kernel_rfl, by kernel_rfl⟩
theorem tiok19 : TI.Ok Try.prog 19 ti19 := ⟨by kernel_rfl, by kernel_rfl, by kernel_rfl⟩
theorem tiok21 : TI.Ok Try.prog 21 ti21 := ⟨by kernel_rfl, by kernel_rfl, by kernel_rfl⟩
theorem tiok22 : TI.Ok Try.prog 22 ti22 := ⟨by kernel_rfl, by kernel_rfl, by kernel_rfl⟩
theorem tiok25 : TI.Ok Try.prog 25 ti25 := ⟨by kernel_rfl, by kernel_rfl, by kernel_rfl⟩
theorem tiok29 : TI.Ok Try.prog 29 ti29 := ⟨by kernel_rfl, by kernel_rfl, by kernel_rfl⟩
theorem tiok30 : TI.Ok Try.prog 30 ti30 := ⟨by kernel_rfl, by kernel_rfl, by kernel_rfl⟩
theorem tiok31 : TI.Ok Try.prog 31 ti31 := ⟨by kernel_rfl, by kernel_rfl, by kernel_rfl⟩
theorem tiok32 : TI.Ok Try.prog 32 ti32 := ⟨by kernel_rfl, by kernel_rfl, by kernel_rfl⟩
theorem tiok33 : TI.Ok Try.prog 33 ti33 := ⟨by kernel_rfl, by kernel_rfl, by kernel_rfl⟩
theorem tiok34 : TI.Ok Try.prog 34 ti34 := ⟨by kernel_rfl, by kernel_rfl, by kernel_rfl⟩
theorem tiok35 : TI.Ok Try.prog 35 ti35 := ⟨by kernel_rfl, by kernel_rfl, by kernel_rfl⟩
theorem tiok36 : TI.Ok Try.prog 36 ti36 := ⟨by kernel_rfl, by kernel_rfl, by kernel_rfl⟩
theorem tiok37 : TI.Ok Try.prog 37 ti37 := ⟨by kernel_rfl, by kernel_rfl, by kernel_rfl⟩
theorem tiok38 : TI.Ok Try.prog 38 ti38 := ⟨by kernel_rfl, by kernel_rfl, by kernel_rfl⟩
theorem tiok39 : TI.Ok Try.prog 39 ti39 := ⟨by kernel_rfl, by kernel_rfl, by kernel_rfl⟩
theorem tiok40 : TI.Ok Try.prog 40 ti40 := ⟨by kernel_rfl, by kernel_rfl, by kernel_rfl⟩
theorem tiok49 : TI.Ok Try.prog 49 ti49 := ⟨by kernel_rfl, by kernel_rfl, by kernel_rfl⟩
theorem tiok50 : TI.Ok Try.prog 50 ti50 := ⟨by kernel_rfl, by kernel_rfl, by kernel_rfl⟩
theorem tiok54 : TI.Ok Try.prog 54 ti54 := ⟨by kernel_rfl, by kernel_rfl, by kernel_rfl⟩
theorem tiok55 : TI.Ok Try.prog 55 ti55 := ⟨by kernel_rfl, by kernel_rfl, by kernel_rfl⟩
theorem tiok58 : TI.Ok Try.prog 58 ti58 := ⟨by kernel_rfl, by kernel_rfl, by kernel_rfl⟩
theorem tiok61 : TI.Ok Try.prog 61 ti61 := ⟨by kernel_rfl, by kernel_rfl, by kernel_rfl⟩
theorem tiok65 : TI.Ok Try.prog 65 ti65 := ⟨by kernel_rfl, by kernel_rfl, by kernel_rfl⟩
theorem tiok66 : TI.Ok Try.prog 66 ti66 := ⟨by kernel_rfl, by kernel_rfl, by kernel_rfl⟩
theorem tiok67 : TI.Ok Try.prog 67 ti67 := ⟨by kernel_rfl, by kernel_rfl, by kernel_rfl⟩
theorem tiok68 : TI.Ok Try.prog 68 ti68 := ⟨by kernel_rfl, by kernel_rfl, by kernel_rfl⟩
theorem tiok69 : TI.Ok Try.prog 69 ti69 := ⟨by kernel_rfl, by kernel_rfl, by kernel_rfl⟩
theorem tiok71 : TI.Ok Try.prog 71 ti71 := ⟨by kernel_rfl, by kernel_rfl, by kernel_rfl⟩
theorem tiok72 : TI.Ok Try.prog 72 ti72 := ⟨by kernel_rfl, by kernel_rfl, by kernel_rfl⟩
theorem tiok73 : TI.Ok Try.prog 73 ti73 := ⟨by kernel_rfl, by kernel_rfl, by kernel_rfl⟩
theorem tiok75 : TI.Ok Try.prog 75 ti75 := ⟨by kernel_rfl, by kernel_rfl, by kernel_rfl⟩
theorem tiok76 : TI.Ok Try.prog 76 ti76 := ⟨by kernel_rfl, by kernel_rfl, by kernel_rfl⟩
theorem tiok77 : TI.Ok Try.prog 77 ti77 := ⟨by kernel_rfl, by kernel_rfl, by kernel_rfl⟩
theorem tiok78 : TI.Ok Try.prog 78 ti78 := ⟨by kernel_rfl, by kernel_rfl, by kernel_rfl⟩
theorem tiok79 : TI.Ok Try.prog 79 ti79 := ⟨by kernel_rfl, by kernel_rfl, by kernel_rfl⟩
def tab : Tab := [none, none, some ti2, some ti3, some ti4, some ti5, some ti6, some ti7, some ti8, some ti9, some ti10, some ti11, some ti12, some ti13, some ti14, some ti15, some ti16, some ti17, some ti18, some ti19, none, some ti21, some ti22, none, none, some ti25, none, none, none, some ti29, some ti30, some ti31, some ti32, some ti33, some ti34, some ti35, some ti36, some ti37, some ti38, some ti39, some ti40, none, none, none, none, none, none, none, none, some ti49, some ti50, none, none, none, some ti54, some ti55, none, none, some ti58, none, none, some ti61, none, none, none, some ti65, some ti66, some ti67, some ti68, some ti69, none, some ti71, some ti72, some ti73, none, some ti75, some ti76, some ti77, some ti78, some ti79, none, none, none]
theorem tab_ok : ∀ t ti, tab.at t = some ti → TI.Ok Try.prog t ti := by
  intro t ti h
  have h2 : tab[t]? = some (some ti) := by
    unfold Tab.at at h
    split at h
    · rename_i x h1; cases h; exact h1
    · cases h
  have al : AllOk Try.prog 0 tab := AllOk.no <| AllOk.no <| AllOk.one tiok2 <| AllOk.one tiok3 <| AllOk.one tiok4 <| AllOk.one tiok5 <| AllOk.one tiok6 <| AllOk.one tiok7 <| AllOk.one tiok8 <| AllOk.one tiok9 <| AllOk.one tiok10 <| AllOk.one tiok11 <| AllOk.one tiok12 <| AllOk.one tiok13 <| AllOk.one tiok14 <| AllOk.one tiok15 <| AllOk.one tiok16 <| AllOk.one tiok17 <| AllOk.one tiok18 <| AllOk.one tiok19 <| AllOk.no <| AllOk.one tiok21 <| AllOk.one tiok22 <| AllOk.no <| AllOk.no <| AllOk.one tiok25 <| AllOk.no <| AllOk.no <| AllOk.no <| AllOk.one tiok29 <| AllOk.one tiok30 <| AllOk.one tiok31 <| AllOk.one tiok32 <| AllOk.one tiok33 <| AllOk.one tiok34 <| AllOk.one tiok35 <| AllOk.one tiok36 <| AllOk.one tiok37 <| AllOk.one tiok38 <| AllOk.one tiok39 <| AllOk.one tiok40 <| AllOk.no <| AllOk.no <| AllOk.no <| AllOk.no <| AllOk.no <| AllOk.no <| AllOk.no <| AllOk.no <| AllOk.one tiok49 <| AllOk.one tiok50 <| AllOk.no <| AllOk.no <| AllOk.no <| AllOk.one tiok54 <| AllOk.one tiok55 <| AllOk.no <| AllOk.no <| AllOk.one tiok58 <| AllOk.no <| AllOk.no <| AllOk.one tiok61 <| AllOk.no <| AllOk.no <| AllOk.no <| AllOk.one tiok65 <| AllOk.one tiok66 <| AllOk.one tiok67 <| AllOk.one tiok68 <| AllOk.one tiok69 <| AllOk.no <| AllOk.one tiok71 <| AllOk.one tiok72 <| AllOk.one tiok73 <| AllOk.no <| AllOk.one tiok75 <| AllOk.one tiok76 <| AllOk.one tiok77 <| AllOk.one tiok78 <| AllOk.one tiok79 <| AllOk.no <| AllOk.no <| AllOk.no <| trivial
  simpa using al.get t ti h2
noncomputable def env : Env := ⟨Try.prog, tab, tab_ok, by kernel_rfl⟩
end Go.Proofs.Ytnnfbjbfdoepmaa
