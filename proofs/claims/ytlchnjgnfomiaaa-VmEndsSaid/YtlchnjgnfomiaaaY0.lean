/- A part of the proof: Y0. -/
import Derived.Test.YtlchnjgnfomiaaaA19
import Derived.Test.YtlchnjgnfomiaaaProg
import Derived.KernelRfl
set_option linter.unusedSimpArgs false
set_option linter.unusedVariables false
open Go Go.Ag Go.Proofs
namespace Y
theorem mix : Try.prog.follows .mixedOrders = true := by kernel_rfl
theorem isb_59 : isBytes Try.prog 59 = true := by kernel_rfl
theorem isp_111 : isPtr Try.prog 111 = true := by kernel_rfl
theorem iss_27 : isSli Try.prog 27 = true := by kernel_rfl
theorem tby_27 : tbytes Try.prog 27 = some (70, 8) := by kernel_rfl
theorem tby_37 : tbytes Try.prog 37 = some (29, 96) := by kernel_rfl
theorem tby_56 : tbytes Try.prog 56 = some (87, 48) := by kernel_rfl
theorem tby_59 : tbytes Try.prog 59 = some (5, 1) := by kernel_rfl
theorem tby_67 : tbytes Try.prog 67 = some (111, 8) := by kernel_rfl
theorem tby_71 : tbytes Try.prog 71 = some (77, 64) := by kernel_rfl
theorem tby_91 : tbytes Try.prog 91 = some (4, 1) := by kernel_rfl
theorem tby_131 : tbytes Try.prog 131 = some (3, 8) := by kernel_rfl
theorem tel_22 : tel Try.prog 22 = some (7, none) := by kernel_rfl
theorem tel_27 : tel Try.prog 27 = some (1, none) := by kernel_rfl
theorem tel_37 : tel Try.prog 37 = some (6, none) := by kernel_rfl
theorem tel_55 : tel Try.prog 55 = some (3, none) := by kernel_rfl
theorem tel_56 : tel Try.prog 56 = some (6, none) := by kernel_rfl
theorem tel_59 : tel Try.prog 59 = some (1, none) := by kernel_rfl
theorem tel_67 : tel Try.prog 67 = some (1, none) := by kernel_rfl
theorem tel_71 : tel Try.prog 71 = some (4, none) := by kernel_rfl
theorem tel_91 : tel Try.prog 91 = some (1, none) := by kernel_rfl
theorem tel_92 : tel Try.prog 92 = some (1, some 10) := by kernel_rfl
theorem tel_93 : tel Try.prog 93 = some (1, some 10) := by kernel_rfl
theorem tel_131 : tel Try.prog 131 = some (1, none) := by kernel_rfl
theorem tfo_29_0 : tfoff Try.prog 29 0 = some 0 := by kernel_rfl
theorem tfo_29_1 : tfoff Try.prog 29 1 = some 1 := by kernel_rfl
theorem tfo_29_2 : tfoff Try.prog 29 2 = some 2 := by kernel_rfl
theorem tfo_29_3 : tfoff Try.prog 29 3 = some 3 := by kernel_rfl
theorem tfo_29_4 : tfoff Try.prog 29 4 = some 4 := by kernel_rfl
theorem tfo_29_5 : tfoff Try.prog 29 5 = some 5 := by kernel_rfl
theorem tfo_31_0 : tfoff Try.prog 31 0 = some 0 := by kernel_rfl
theorem tfo_31_1 : tfoff Try.prog 31 1 = some 1 := by kernel_rfl
theorem tfo_35_0 : tfoff Try.prog 35 0 = some 0 := by kernel_rfl
theorem tfo_35_1 : tfoff Try.prog 35 1 = some 1 := by kernel_rfl
theorem tfo_48_0 : tfoff Try.prog 48 0 = some 0 := by kernel_rfl
theorem tfo_48_1 : tfoff Try.prog 48 1 = some 1 := by kernel_rfl
theorem tfo_48_2 : tfoff Try.prog 48 2 = some 2 := by kernel_rfl
theorem tfo_48_3 : tfoff Try.prog 48 3 = some 3 := by kernel_rfl
theorem tfo_48_4 : tfoff Try.prog 48 4 = some 4 := by kernel_rfl
theorem tfo_58_0 : tfoff Try.prog 58 0 = some 0 := by kernel_rfl
theorem tfo_58_1 : tfoff Try.prog 58 1 = some 1 := by kernel_rfl
theorem tfo_58_2 : tfoff Try.prog 58 2 = some 2 := by kernel_rfl
theorem tfo_62_0 : tfoff Try.prog 62 0 = some 0 := by kernel_rfl
theorem tfo_62_1 : tfoff Try.prog 62 1 = some 1 := by kernel_rfl
theorem tfo_64_0 : tfoff Try.prog 64 0 = some 0 := by kernel_rfl
theorem tfo_64_1 : tfoff Try.prog 64 1 = some 1 := by kernel_rfl
theorem tfo_73_0 : tfoff Try.prog 73 0 = some 0 := by kernel_rfl
theorem tfo_73_1 : tfoff Try.prog 73 1 = some 1 := by kernel_rfl
theorem tfo_73_2 : tfoff Try.prog 73 2 = some 2 := by kernel_rfl
theorem tfo_73_3 : tfoff Try.prog 73 3 = some 3 := by kernel_rfl
theorem tfo_77_0 : tfoff Try.prog 77 0 = some 0 := by kernel_rfl
theorem tfo_77_1 : tfoff Try.prog 77 1 = some 1 := by kernel_rfl
theorem tfo_77_2 : tfoff Try.prog 77 2 = some 2 := by kernel_rfl
theorem tfo_87_0 : tfoff Try.prog 87 0 = some 0 := by kernel_rfl
theorem tfo_87_1 : tfoff Try.prog 87 1 = some 1 := by kernel_rfl
theorem tfo_87_2 : tfoff Try.prog 87 2 = some 2 := by kernel_rfl
theorem tfo_87_3 : tfoff Try.prog 87 3 = some 3 := by kernel_rfl
theorem tfo_87_4 : tfoff Try.prog 87 4 = some 4 := by kernel_rfl
theorem tfo_87_5 : tfoff Try.prog 87 5 = some 5 := by kernel_rfl
theorem tfo_95_0 : tfoff Try.prog 95 0 = some 0 := by kernel_rfl
theorem tfo_95_1 : tfoff Try.prog 95 1 = some 3 := by kernel_rfl
theorem tfo_95_2 : tfoff Try.prog 95 2 = some 4 := by kernel_rfl
theorem tfo_95_3 : tfoff Try.prog 95 3 = some 5 := by kernel_rfl
theorem tfo_95_4 : tfoff Try.prog 95 4 = some 6 := by kernel_rfl
theorem tfo_95_5 : tfoff Try.prog 95 5 = some 16 := by kernel_rfl
theorem tfo_95_6 : tfoff Try.prog 95 6 = some 26 := by kernel_rfl
theorem tfo_95_7 : tfoff Try.prog 95 7 = some 27 := by kernel_rfl
theorem tfo_95_8 : tfoff Try.prog 95 8 = some 28 := by kernel_rfl
theorem tfo_104_0 : tfoff Try.prog 104 0 = some 0 := by kernel_rfl
theorem tfo_104_1 : tfoff Try.prog 104 1 = some 1 := by kernel_rfl
theorem tfo_104_2 : tfoff Try.prog 104 2 = some 2 := by kernel_rfl
theorem tfo_106_0 : tfoff Try.prog 106 0 = some 0 := by kernel_rfl
theorem tfo_136_0 : tfoff Try.prog 136 0 = some 0 := by kernel_rfl
theorem tfo_136_2 : tfoff Try.prog 136 2 = some 7 := by kernel_rfl
theorem tfo_136_4 : tfoff Try.prog 136 4 = some 9 := by kernel_rfl
theorem tpl_29 : tplaces Try.prog 29 = some (.st [(0, 1), (1, 1), (2, 1), (3, 1), (4, 1), (5, 1)]) := by kernel_rfl
theorem tpl_35 : tplaces Try.prog 35 = some (.st [(0, 1), (1, 1)]) := by kernel_rfl
theorem tpl_48 : tplaces Try.prog 48 = some (.st [(0, 1), (1, 1), (2, 1), (3, 1), (4, 1)]) := by kernel_rfl
theorem tpl_58 : tplaces Try.prog 58 = some (.st [(0, 1), (1, 1), (2, 1)]) := by kernel_rfl
theorem tpl_62 : tplaces Try.prog 62 = some (.st [(0, 1), (1, 1)]) := by kernel_rfl
theorem tpl_64 : tplaces Try.prog 64 = some (.st [(0, 1), (1, 1)]) := by kernel_rfl
theorem tpl_73 : tplaces Try.prog 73 = some (.st [(0, 1), (1, 1), (2, 1), (3, 1)]) := by kernel_rfl
theorem tpl_77 : tplaces Try.prog 77 = some (.st [(0, 1), (1, 1), (2, 2)]) := by kernel_rfl
theorem tpl_87 : tplaces Try.prog 87 = some (.st [(0, 1), (1, 1), (2, 1), (3, 1), (4, 1), (5, 1)]) := by kernel_rfl
theorem tpl_95 : tplaces Try.prog 95 = some (.st [(0, 3), (3, 1), (4, 1), (5, 1), (6, 10), (16, 10), (26, 1), (27, 1), (28, 2)]) := by kernel_rfl
theorem tpl_106 : tplaces Try.prog 106 = some (.st [(0, 3)]) := by kernel_rfl
theorem tpl_127 : tplaces Try.prog 127 = some (.ar 1) := by kernel_rfl
theorem tsz_3 : tsz Try.prog 3 = some (1, false) := by kernel_rfl
theorem tsz_4 : tsz Try.prog 4 = some (1, false) := by kernel_rfl
theorem tsz_5 : tsz Try.prog 5 = some (1, false) := by kernel_rfl
theorem tsz_9 : tsz Try.prog 9 = some (1, false) := by kernel_rfl
theorem tsz_27 : tsz Try.prog 27 = some (1, false) := by kernel_rfl
theorem tsz_29 : tsz Try.prog 29 = some (6, true) := by kernel_rfl
theorem tsz_35 : tsz Try.prog 35 = some (2, true) := by kernel_rfl
theorem tsz_37 : tsz Try.prog 37 = some (1, false) := by kernel_rfl
theorem tsz_55 : tsz Try.prog 55 = some (1, false) := by kernel_rfl
theorem tsz_56 : tsz Try.prog 56 = some (1, false) := by kernel_rfl
theorem tsz_58 : tsz Try.prog 58 = some (3, true) := by kernel_rfl
theorem tsz_59 : tsz Try.prog 59 = some (1, false) := by kernel_rfl
theorem tsz_62 : tsz Try.prog 62 = some (2, true) := by kernel_rfl
theorem tsz_64 : tsz Try.prog 64 = some (2, true) := by kernel_rfl
theorem tsz_67 : tsz Try.prog 67 = some (1, false) := by kernel_rfl
theorem tsz_70 : tsz Try.prog 70 = some (1, false) := by kernel_rfl
theorem tsz_71 : tsz Try.prog 71 = some (1, false) := by kernel_rfl
theorem tsz_77 : tsz Try.prog 77 = some (4, true) := by kernel_rfl
theorem tsz_87 : tsz Try.prog 87 = some (6, true) := by kernel_rfl
theorem tsz_91 : tsz Try.prog 91 = some (1, false) := by kernel_rfl
theorem tsz_104 : tsz Try.prog 104 = some (3, true) := by kernel_rfl
theorem tsz_106 : tsz Try.prog 106 = some (3, true) := by kernel_rfl
theorem tsz_111 : tsz Try.prog 111 = some (1, false) := by kernel_rfl
theorem tsz_129 : tsz Try.prog 129 = some (1, false) := by kernel_rfl
theorem tsz_131 : tsz Try.prog 131 = some (1, false) := by kernel_rfl
theorem tsz_140 : tsz Try.prog 140 = some (1, false) := by kernel_rfl
theorem tzr_3 : tzero Try.prog 3 = some [.v (.int .i64 0)] := by kernel_rfl
theorem tzr_4 : tzero Try.prog 4 = some [.v (.bool false)] := by kernel_rfl
theorem tzr_5 : tzero Try.prog 5 = some [.v (.int .u8 0)] := by kernel_rfl
theorem tzr_29 : tzero Try.prog 29 = some [.v (.slice none 0 0), .v (.slice none 0 0), .v (.int .i64 0), .v (.int .i64 0), .v (.int .i64 0), .v (.slice none 0 0)] := by kernel_rfl
theorem tzr_35 : tzero Try.prog 35 = some [.v (.int .i64 0), .v (.slice none 0 0)] := by kernel_rfl
theorem tzr_48 : tzero Try.prog 48 = some [.v (.int .i64 0), .v (.int .i64 0), .v (.int .i64 0), .v (.int .i64 0), .v (.slice none 0 0)] := by kernel_rfl
theorem tzr_58 : tzero Try.prog 58 = some [.v (.int .i64 0), .v (.slice none 0 0), .v (.slice none 0 0)] := by kernel_rfl
theorem tzr_62 : tzero Try.prog 62 = some [.v (.int .i64 0), .v (.slice none 0 0)] := by kernel_rfl
theorem tzr_64 : tzero Try.prog 64 = some [.v (.int .i64 0), .v (.int .i64 0)] := by kernel_rfl
theorem tzr_70 : tzero Try.prog 70 = some [.v (.int .u64 0)] := by kernel_rfl
theorem tzr_73 : tzero Try.prog 73 = some [.v (.int .i64 0), .v (.int .i64 0), .v (.int .i64 0), .v (.slice none 0 0)] := by kernel_rfl
theorem tzr_77 : tzero Try.prog 77 = some [.v (.bool false), .v (.slice none 0 0), .v (.int .i64 0), .v (.slice none 0 0)] := by kernel_rfl
theorem tzr_87 : tzero Try.prog 87 = some [.v (.int .i64 0), .v (.int .i64 0), .v (.int .i64 0), .v (.int .i64 0), .v (.int .i64 0), .v (.int .u64 0)] := by kernel_rfl
theorem tzr_95 : tzero Try.prog 95 = some [.v (.int .i64 0), .v (.slice none 0 0), .v (.slice none 0 0), .v (.slice none 0 0), .v (.slice none 0 0), .v (.int .i64 0), .v (.int .u64 0), .v (.int .u64 0), .v (.int .u64 0), .v (.int .u64 0), .v (.int .u64 0), .v (.int .u64 0), .v (.int .u64 0), .v (.int .u64 0), .v (.int .u64 0), .v (.int .u64 0), .v (.bool false), .v (.bool false), .v (.bool false), .v (.bool false), .v (.bool false), .v (.bool false), .v (.bool false), .v (.bool false), .v (.bool false), .v (.bool false), .v (.slice none 0 0), .v (.slice none 0 0), .v (.int .i64 0), .v (.slice none 0 0)] := by kernel_rfl
theorem tzr_104 : tzero Try.prog 104 = some [.v (.int .i64 0), .v (.int .i64 0), .v (.int .i64 0)] := by kernel_rfl
theorem tzr_106 : tzero Try.prog 106 = some [.v (.int .i64 0), .v (.slice none 0 0), .v (.slice none 0 0)] := by kernel_rfl
theorem tzr_111 : tzero Try.prog 111 = some [.v (.pointer none)] := by kernel_rfl
theorem tzr_127 : tzero Try.prog 127 = some [.v (.string ⟨#[]⟩), .v (.string ⟨#[]⟩), .v (.string ⟨#[]⟩), .v (.string ⟨#[]⟩), .v (.string ⟨#[]⟩), .v (.string ⟨#[]⟩), .v (.string ⟨#[]⟩), .v (.string ⟨#[]⟩), .v (.string ⟨#[]⟩), .v (.string ⟨#[]⟩), .v (.string ⟨#[]⟩), .v (.string ⟨#[]⟩), .v (.string ⟨#[]⟩), .v (.string ⟨#[]⟩), .v (.string ⟨#[]⟩), .v (.string ⟨#[]⟩), .v (.string ⟨#[]⟩), .v (.string ⟨#[]⟩), .v (.string ⟨#[]⟩)] := by kernel_rfl
theorem tzr_140 : tzero Try.prog 140 = some [.v (.int .u64 0)] := by kernel_rfl
theorem uis_3 : (Try.prog.underlying 3).isSome = true := by kernel_rfl
theorem uis_5 : (Try.prog.underlying 5).isSome = true := by kernel_rfl
theorem uis_39 : (Try.prog.underlying 39).isSome = true := by kernel_rfl
theorem uis_59 : (Try.prog.underlying 59).isSome = true := by kernel_rfl
theorem uis_70 : (Try.prog.underlying 70).isSome = true := by kernel_rfl
theorem uis_123 : (Try.prog.underlying 123).isSome = true := by kernel_rfl
theorem und_3 : Try.prog.underlying 3 = some (.int .i64) := by kernel_rfl
theorem und_4 : Try.prog.underlying 4 = some (.bool) := by kernel_rfl
theorem und_5 : Try.prog.underlying 5 = some (.int .u8) := by kernel_rfl
theorem und_9 : Try.prog.underlying 9 = some (.string) := by kernel_rfl
theorem und_22 : Try.prog.underlying 22 = some (.slice 31) := by kernel_rfl
theorem und_27 : Try.prog.underlying 27 = some (.slice 70) := by kernel_rfl
theorem und_37 : Try.prog.underlying 37 = some (.slice 29) := by kernel_rfl
theorem und_39 : Try.prog.underlying 39 = some (.int .u64) := by kernel_rfl
theorem und_55 : Try.prog.underlying 55 = some (.slice 104) := by kernel_rfl
theorem und_56 : Try.prog.underlying 56 = some (.slice 87) := by kernel_rfl
theorem und_59 : Try.prog.underlying 59 = some (.slice 5) := by kernel_rfl
theorem und_67 : Try.prog.underlying 67 = some (.slice 111) := by kernel_rfl
theorem und_70 : Try.prog.underlying 70 = some (.int .u64) := by kernel_rfl
theorem und_71 : Try.prog.underlying 71 = some (.slice 77) := by kernel_rfl
theorem und_91 : Try.prog.underlying 91 = some (.slice 4) := by kernel_rfl
theorem und_123 : Try.prog.underlying 123 = some (.int .u32) := by kernel_rfl
theorem und_127 : Try.prog.underlying 127 = some (.array 19 9) := by kernel_rfl
theorem und_131 : Try.prog.underlying 131 = some (.slice 3) := by kernel_rfl
theorem und_140 : Try.prog.underlying 140 = some (.int .u64) := by kernel_rfl
end Y
