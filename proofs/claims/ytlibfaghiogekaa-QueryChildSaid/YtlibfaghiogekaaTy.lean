/- Closed facts on types and functions. Printed by gen.py. -/
import Derived.Test.YtlibfaghiogekaaRows
import Derived.Test.YtlibfaghiogekaaQi
namespace Go.Proofs.Ytlibfaghiogekaa
open Go Go.Q
theorem s0 : (Try.prog.info? 0).map (·.size) = some 1 := by kernel_rfl
theorem o0 : one Try.prog 0 = true := by kernel_rfl
theorem s1 : (Try.prog.info? 1).map (·.size) = some 1 := by kernel_rfl
theorem o1 : one Try.prog 1 = true := by kernel_rfl
theorem z1 : (Try.prog.info? 1).bind (·.zero) = some (.nilFunc) := by kernel_rfl
theorem i1 : (Try.prog.info? 1).map (fun i => (i.zero, i.size, i.bytes)) = some (some (.nilFunc), 1, 8) := by kernel_rfl
theorem s2 : (Try.prog.info? 2).map (·.size) = some 1 := by kernel_rfl
theorem o2 : one Try.prog 2 = true := by kernel_rfl
theorem z2 : (Try.prog.info? 2).bind (·.zero) = some (.int .i64 0) := by kernel_rfl
theorem i2 : (Try.prog.info? 2).map (fun i => (i.zero, i.size, i.bytes)) = some (some (.int .i64 0), 1, 8) := by kernel_rfl
theorem s3 : (Try.prog.info? 3).map (·.size) = some 1 := by kernel_rfl
theorem o3 : one Try.prog 3 = true := by kernel_rfl
theorem z3 : (Try.prog.info? 3).bind (·.zero) = some (.int .i64 0) := by kernel_rfl
theorem i3 : (Try.prog.info? 3).map (fun i => (i.zero, i.size, i.bytes)) = some (some (.int .i64 0), 1, 8) := by kernel_rfl
theorem s4 : (Try.prog.info? 4).map (·.size) = some 1 := by kernel_rfl
theorem o4 : one Try.prog 4 = true := by kernel_rfl
theorem z4 : (Try.prog.info? 4).bind (·.zero) = some (.bool false) := by kernel_rfl
theorem i4 : (Try.prog.info? 4).map (fun i => (i.zero, i.size, i.bytes)) = some (some (.bool false), 1, 1) := by kernel_rfl
theorem s5 : (Try.prog.info? 5).map (·.size) = some 1 := by kernel_rfl
theorem o5 : one Try.prog 5 = true := by kernel_rfl
theorem z5 : (Try.prog.info? 5).bind (·.zero) = some (.int .u8 0) := by kernel_rfl
theorem i5 : (Try.prog.info? 5).map (fun i => (i.zero, i.size, i.bytes)) = some (some (.int .u8 0), 1, 1) := by kernel_rfl
theorem s6 : (Try.prog.info? 6).map (·.size) = some 1 := by kernel_rfl
theorem o6 : one Try.prog 6 = true := by kernel_rfl
theorem z6 : (Try.prog.info? 6).bind (·.zero) = some (.int .u8 0) := by kernel_rfl
theorem i6 : (Try.prog.info? 6).map (fun i => (i.zero, i.size, i.bytes)) = some (some (.int .u8 0), 1, 1) := by kernel_rfl
theorem s7 : (Try.prog.info? 7).map (·.size) = some 4 := by kernel_rfl
theorem a7 : agg Try.prog 7 = true := by kernel_rfl
theorem z7 : (Try.prog.info? 7).bind (·.zero) = some (.agg #[.int .i64 0, .int .i64 0, .bool false, .int .u8 0]) := by kernel_rfl
theorem i7 : (Try.prog.info? 7).map (fun i => (i.zero, i.size, i.bytes)) = some (some (.agg #[.int .i64 0, .int .i64 0, .bool false, .int .u8 0]), 4, 24) := by kernel_rfl
theorem p7 : placesOf Try.prog 7 = some [(0, 1), (1, 1), (2, 1), (3, 1)] := by kernel_rfl
theorem s8 : (Try.prog.info? 8).map (·.size) = some 4 := by kernel_rfl
theorem a8 : agg Try.prog 8 = true := by kernel_rfl
theorem z8 : (Try.prog.info? 8).bind (·.zero) = some (.agg #[.int .i64 0, .int .i64 0, .bool false, .int .u8 0]) := by kernel_rfl
theorem i8 : (Try.prog.info? 8).map (fun i => (i.zero, i.size, i.bytes)) = some (some (.agg #[.int .i64 0, .int .i64 0, .bool false, .int .u8 0]), 4, 24) := by kernel_rfl
theorem p8 : placesOf Try.prog 8 = some [(0, 1), (1, 1), (2, 1), (3, 1)] := by kernel_rfl
theorem s9 : (Try.prog.info? 9).map (·.size) = some 1 := by kernel_rfl
theorem o9 : one Try.prog 9 = true := by kernel_rfl
theorem z9 : (Try.prog.info? 9).bind (·.zero) = some (.string ⟨#[]⟩) := by kernel_rfl
theorem i9 : (Try.prog.info? 9).map (fun i => (i.zero, i.size, i.bytes)) = some (some (.string ⟨#[]⟩), 1, 16) := by kernel_rfl
theorem s10 : (Try.prog.info? 10).map (·.size) = some 1 := by kernel_rfl
theorem o10 : one Try.prog 10 = true := by kernel_rfl
theorem z10 : (Try.prog.info? 10).bind (·.zero) = some (.string ⟨#[]⟩) := by kernel_rfl
theorem i10 : (Try.prog.info? 10).map (fun i => (i.zero, i.size, i.bytes)) = some (some (.string ⟨#[]⟩), 1, 16) := by kernel_rfl
theorem s11 : (Try.prog.info? 11).map (·.size) = some 1 := by kernel_rfl
theorem o11 : one Try.prog 11 = true := by kernel_rfl
theorem z11 : (Try.prog.info? 11).bind (·.zero) = some (.string ⟨#[]⟩) := by kernel_rfl
theorem i11 : (Try.prog.info? 11).map (fun i => (i.zero, i.size, i.bytes)) = some (some (.string ⟨#[]⟩), 1, 16) := by kernel_rfl
theorem s12 : (Try.prog.info? 12).map (·.size) = some 1 := by kernel_rfl
theorem o12 : one Try.prog 12 = true := by kernel_rfl
theorem z12 : (Try.prog.info? 12).bind (·.zero) = some (.int .u64 0) := by kernel_rfl
theorem i12 : (Try.prog.info? 12).map (fun i => (i.zero, i.size, i.bytes)) = some (some (.int .u64 0), 1, 8) := by kernel_rfl
theorem s13 : (Try.prog.info? 13).map (·.size) = some 2 := by kernel_rfl
theorem a13 : agg Try.prog 13 = true := by kernel_rfl
theorem z13 : (Try.prog.info? 13).bind (·.zero) = some (.agg #[.string ⟨#[]⟩, .int .u64 0]) := by kernel_rfl
theorem i13 : (Try.prog.info? 13).map (fun i => (i.zero, i.size, i.bytes)) = some (some (.agg #[.string ⟨#[]⟩, .int .u64 0]), 2, 24) := by kernel_rfl
theorem p13 : placesOf Try.prog 13 = some [(0, 1), (1, 1)] := by kernel_rfl
theorem s14 : (Try.prog.info? 14).map (·.size) = some 2 := by kernel_rfl
theorem a14 : agg Try.prog 14 = true := by kernel_rfl
theorem z14 : (Try.prog.info? 14).bind (·.zero) = some (.agg #[.string ⟨#[]⟩, .int .u64 0]) := by kernel_rfl
theorem i14 : (Try.prog.info? 14).map (fun i => (i.zero, i.size, i.bytes)) = some (some (.agg #[.string ⟨#[]⟩, .int .u64 0]), 2, 24) := by kernel_rfl
theorem p14 : placesOf Try.prog 14 = some [(0, 1), (1, 1)] := by kernel_rfl
theorem s15 : (Try.prog.info? 15).map (·.size) = some 1 := by kernel_rfl
theorem o15 : one Try.prog 15 = true := by kernel_rfl
theorem z15 : (Try.prog.info? 15).bind (·.zero) = some (.pointer none) := by kernel_rfl
theorem i15 : (Try.prog.info? 15).map (fun i => (i.zero, i.size, i.bytes)) = some (some (.pointer none), 1, 8) := by kernel_rfl
theorem s16 : (Try.prog.info? 16).map (·.size) = some 1 := by kernel_rfl
theorem o16 : one Try.prog 16 = true := by kernel_rfl
theorem z16 : (Try.prog.info? 16).bind (·.zero) = some (.pointer none) := by kernel_rfl
theorem i16 : (Try.prog.info? 16).map (fun i => (i.zero, i.size, i.bytes)) = some (some (.pointer none), 1, 8) := by kernel_rfl
theorem s17 : (Try.prog.info? 17).map (·.size) = some 1 := by kernel_rfl
theorem o17 : one Try.prog 17 = true := by kernel_rfl
theorem z17 : (Try.prog.info? 17).bind (·.zero) = some (.pointer none) := by kernel_rfl
theorem i17 : (Try.prog.info? 17).map (fun i => (i.zero, i.size, i.bytes)) = some (some (.pointer none), 1, 8) := by kernel_rfl
theorem s18 : (Try.prog.info? 18).map (·.size) = some 1 := by kernel_rfl
theorem a18 : agg Try.prog 18 = true := by kernel_rfl
theorem z18 : (Try.prog.info? 18).bind (·.zero) = some (.agg #[.pointer none]) := by kernel_rfl
theorem i18 : (Try.prog.info? 18).map (fun i => (i.zero, i.size, i.bytes)) = some (some (.agg #[.pointer none]), 1, 8) := by kernel_rfl
theorem p18 : placesOf Try.prog 18 = some [(0, 1)] := by kernel_rfl
theorem s19 : (Try.prog.info? 19).map (·.size) = some 1 := by kernel_rfl
theorem a19 : agg Try.prog 19 = true := by kernel_rfl
theorem z19 : (Try.prog.info? 19).bind (·.zero) = some (.agg #[.pointer none]) := by kernel_rfl
theorem i19 : (Try.prog.info? 19).map (fun i => (i.zero, i.size, i.bytes)) = some (some (.agg #[.pointer none]), 1, 8) := by kernel_rfl
theorem p19 : placesOf Try.prog 19 = some [(0, 1)] := by kernel_rfl
theorem s20 : (Try.prog.info? 20).map (·.size) = some 1 := by kernel_rfl
theorem o20 : one Try.prog 20 = true := by kernel_rfl
theorem z20 : (Try.prog.info? 20).bind (·.zero) = some (.nilIface) := by kernel_rfl
theorem i20 : (Try.prog.info? 20).map (fun i => (i.zero, i.size, i.bytes)) = some (some (.nilIface), 1, 16) := by kernel_rfl
theorem s21 : (Try.prog.info? 21).map (·.size) = some 1 := by kernel_rfl
theorem o21 : one Try.prog 21 = true := by kernel_rfl
theorem z21 : (Try.prog.info? 21).bind (·.zero) = some (.int .i32 0) := by kernel_rfl
theorem i21 : (Try.prog.info? 21).map (fun i => (i.zero, i.size, i.bytes)) = some (some (.int .i32 0), 1, 4) := by kernel_rfl
theorem s22 : (Try.prog.info? 22).map (·.size) = some 1 := by kernel_rfl
theorem o22 : one Try.prog 22 = true := by kernel_rfl
theorem z22 : (Try.prog.info? 22).bind (·.zero) = some (.slice none 0 0) := by kernel_rfl
theorem i22 : (Try.prog.info? 22).map (fun i => (i.zero, i.size, i.bytes)) = some (some (.slice none 0 0), 1, 24) := by kernel_rfl
theorem s23 : (Try.prog.info? 23).map (·.size) = some 1 := by kernel_rfl
theorem o23 : one Try.prog 23 = true := by kernel_rfl
theorem z23 : (Try.prog.info? 23).bind (·.zero) = some (.nilFunc) := by kernel_rfl
theorem i23 : (Try.prog.info? 23).map (fun i => (i.zero, i.size, i.bytes)) = some (some (.nilFunc), 1, 8) := by kernel_rfl
theorem s24 : (Try.prog.info? 24).map (·.size) = some 1 := by kernel_rfl
theorem o24 : one Try.prog 24 = true := by kernel_rfl
theorem z24 : (Try.prog.info? 24).bind (·.zero) = some (.slice none 0 0) := by kernel_rfl
theorem i24 : (Try.prog.info? 24).map (fun i => (i.zero, i.size, i.bytes)) = some (some (.slice none 0 0), 1, 24) := by kernel_rfl
theorem s25 : (Try.prog.info? 25).map (·.size) = some 1 := by kernel_rfl
theorem o25 : one Try.prog 25 = true := by kernel_rfl
theorem z25 : (Try.prog.info? 25).bind (·.zero) = some (.slice none 0 0) := by kernel_rfl
theorem i25 : (Try.prog.info? 25).map (fun i => (i.zero, i.size, i.bytes)) = some (some (.slice none 0 0), 1, 24) := by kernel_rfl
theorem s26 : (Try.prog.info? 26).map (·.size) = some 1 := by kernel_rfl
theorem o26 : one Try.prog 26 = true := by kernel_rfl
theorem z26 : (Try.prog.info? 26).bind (·.zero) = some (.slice none 0 0) := by kernel_rfl
theorem i26 : (Try.prog.info? 26).map (fun i => (i.zero, i.size, i.bytes)) = some (some (.slice none 0 0), 1, 24) := by kernel_rfl
theorem s27 : (Try.prog.info? 27).map (·.size) = some 1 := by kernel_rfl
theorem o27 : one Try.prog 27 = true := by kernel_rfl
theorem z27 : (Try.prog.info? 27).bind (·.zero) = some (.slice none 0 0) := by kernel_rfl
theorem i27 : (Try.prog.info? 27).map (fun i => (i.zero, i.size, i.bytes)) = some (some (.slice none 0 0), 1, 24) := by kernel_rfl
theorem s28 : (Try.prog.info? 28).map (·.size) = some 1 := by kernel_rfl
theorem o28 : one Try.prog 28 = true := by kernel_rfl
theorem z28 : (Try.prog.info? 28).bind (·.zero) = some (.slice none 0 0) := by kernel_rfl
theorem i28 : (Try.prog.info? 28).map (fun i => (i.zero, i.size, i.bytes)) = some (some (.slice none 0 0), 1, 24) := by kernel_rfl
theorem s29 : (Try.prog.info? 29).map (·.size) = some 1 := by kernel_rfl
theorem o29 : one Try.prog 29 = true := by kernel_rfl
theorem z29 : (Try.prog.info? 29).bind (·.zero) = some (.slice none 0 0) := by kernel_rfl
theorem i29 : (Try.prog.info? 29).map (fun i => (i.zero, i.size, i.bytes)) = some (some (.slice none 0 0), 1, 24) := by kernel_rfl
theorem s30 : (Try.prog.info? 30).map (·.size) = some 8 := by kernel_rfl
theorem a30 : agg Try.prog 30 = true := by kernel_rfl
theorem z30 : (Try.prog.info? 30).bind (·.zero) = some (.agg #[.int .i64 0, .int .i64 0, .string ⟨#[]⟩, .string ⟨#[]⟩, .slice none 0 0, .slice none 0 0, .slice none 0 0, .slice none 0 0]) := by kernel_rfl
theorem i30 : (Try.prog.info? 30).map (fun i => (i.zero, i.size, i.bytes)) = some (some (.agg #[.int .i64 0, .int .i64 0, .string ⟨#[]⟩, .string ⟨#[]⟩, .slice none 0 0, .slice none 0 0, .slice none 0 0, .slice none 0 0]), 8, 144) := by kernel_rfl
theorem p30 : placesOf Try.prog 30 = some [(0, 1), (1, 1), (2, 1), (3, 1), (4, 1), (5, 1), (6, 1), (7, 1)] := by kernel_rfl
theorem s31 : (Try.prog.info? 31).map (·.size) = some 8 := by kernel_rfl
theorem a31 : agg Try.prog 31 = true := by kernel_rfl
theorem z31 : (Try.prog.info? 31).bind (·.zero) = some (.agg #[.int .i64 0, .int .i64 0, .string ⟨#[]⟩, .string ⟨#[]⟩, .slice none 0 0, .slice none 0 0, .slice none 0 0, .slice none 0 0]) := by kernel_rfl
theorem i31 : (Try.prog.info? 31).map (fun i => (i.zero, i.size, i.bytes)) = some (some (.agg #[.int .i64 0, .int .i64 0, .string ⟨#[]⟩, .string ⟨#[]⟩, .slice none 0 0, .slice none 0 0, .slice none 0 0, .slice none 0 0]), 8, 144) := by kernel_rfl
theorem p31 : placesOf Try.prog 31 = some [(0, 1), (1, 1), (2, 1), (3, 1), (4, 1), (5, 1), (6, 1), (7, 1)] := by kernel_rfl
theorem s32 : (Try.prog.info? 32).map (·.size) = some 1 := by kernel_rfl
theorem o32 : one Try.prog 32 = true := by kernel_rfl
theorem s33 : (Try.prog.info? 33).map (·.size) = some 1 := by kernel_rfl
theorem o33 : one Try.prog 33 = true := by kernel_rfl
theorem z33 : (Try.prog.info? 33).bind (·.zero) = some (.nilFunc) := by kernel_rfl
theorem i33 : (Try.prog.info? 33).map (fun i => (i.zero, i.size, i.bytes)) = some (some (.nilFunc), 1, 8) := by kernel_rfl
theorem s34 : (Try.prog.info? 34).map (·.size) = some 1 := by kernel_rfl
theorem o34 : one Try.prog 34 = true := by kernel_rfl
theorem z34 : (Try.prog.info? 34).bind (·.zero) = some (.slice none 0 0) := by kernel_rfl
theorem i34 : (Try.prog.info? 34).map (fun i => (i.zero, i.size, i.bytes)) = some (some (.slice none 0 0), 1, 24) := by kernel_rfl
theorem s35 : (Try.prog.info? 35).map (·.size) = some 1 := by kernel_rfl
theorem o35 : one Try.prog 35 = true := by kernel_rfl
theorem z35 : (Try.prog.info? 35).bind (·.zero) = some (.slice none 0 0) := by kernel_rfl
theorem i35 : (Try.prog.info? 35).map (fun i => (i.zero, i.size, i.bytes)) = some (some (.slice none 0 0), 1, 24) := by kernel_rfl
theorem s36 : (Try.prog.info? 36).map (·.size) = some 6 := by kernel_rfl
theorem a36 : agg Try.prog 36 = true := by kernel_rfl
theorem z36 : (Try.prog.info? 36).bind (·.zero) = some (.agg #[.int .i64 0, .int .i64 0, .int .i64 0, .int .i64 0, .bool false, .bool false]) := by kernel_rfl
theorem i36 : (Try.prog.info? 36).map (fun i => (i.zero, i.size, i.bytes)) = some (some (.agg #[.int .i64 0, .int .i64 0, .int .i64 0, .int .i64 0, .bool false, .bool false]), 6, 40) := by kernel_rfl
theorem p36 : placesOf Try.prog 36 = some [(0, 1), (1, 1), (2, 1), (3, 1), (4, 1), (5, 1)] := by kernel_rfl
theorem s37 : (Try.prog.info? 37).map (·.size) = some 6 := by kernel_rfl
theorem a37 : agg Try.prog 37 = true := by kernel_rfl
theorem z37 : (Try.prog.info? 37).bind (·.zero) = some (.agg #[.int .i64 0, .int .i64 0, .int .i64 0, .int .i64 0, .bool false, .bool false]) := by kernel_rfl
theorem i37 : (Try.prog.info? 37).map (fun i => (i.zero, i.size, i.bytes)) = some (some (.agg #[.int .i64 0, .int .i64 0, .int .i64 0, .int .i64 0, .bool false, .bool false]), 6, 40) := by kernel_rfl
theorem p37 : placesOf Try.prog 37 = some [(0, 1), (1, 1), (2, 1), (3, 1), (4, 1), (5, 1)] := by kernel_rfl
theorem s38 : (Try.prog.info? 38).map (·.size) = some 1 := by kernel_rfl
theorem o38 : one Try.prog 38 = true := by kernel_rfl
theorem z38 : (Try.prog.info? 38).bind (·.zero) = some (.slice none 0 0) := by kernel_rfl
theorem i38 : (Try.prog.info? 38).map (fun i => (i.zero, i.size, i.bytes)) = some (some (.slice none 0 0), 1, 24) := by kernel_rfl
theorem s39 : (Try.prog.info? 39).map (·.size) = some 14 := by kernel_rfl
theorem a39 : agg Try.prog 39 = true := by kernel_rfl
theorem z39 : (Try.prog.info? 39).bind (·.zero) = some (.agg #[.int .i64 0, .string ⟨#[]⟩, .string ⟨#[]⟩, .string ⟨#[]⟩, .slice none 0 0, .slice none 0 0, .slice none 0 0, .int .i64 0, .int .i64 0, .int .i64 0, .int .i64 0, .bool false, .bool false, .slice none 0 0]) := by kernel_rfl
theorem i39 : (Try.prog.info? 39).map (fun i => (i.zero, i.size, i.bytes)) = some (some (.agg #[.int .i64 0, .string ⟨#[]⟩, .string ⟨#[]⟩, .string ⟨#[]⟩, .slice none 0 0, .slice none 0 0, .slice none 0 0, .int .i64 0, .int .i64 0, .int .i64 0, .int .i64 0, .bool false, .bool false, .slice none 0 0]), 14, 192) := by kernel_rfl
theorem p39 : placesOf Try.prog 39 = some [(0, 1), (1, 1), (2, 1), (3, 1), (4, 1), (5, 1), (6, 1), (7, 6), (13, 1)] := by kernel_rfl
theorem s40 : (Try.prog.info? 40).map (·.size) = some 14 := by kernel_rfl
theorem a40 : agg Try.prog 40 = true := by kernel_rfl
theorem z40 : (Try.prog.info? 40).bind (·.zero) = some (.agg #[.int .i64 0, .string ⟨#[]⟩, .string ⟨#[]⟩, .string ⟨#[]⟩, .slice none 0 0, .slice none 0 0, .slice none 0 0, .int .i64 0, .int .i64 0, .int .i64 0, .int .i64 0, .bool false, .bool false, .slice none 0 0]) := by kernel_rfl
theorem i40 : (Try.prog.info? 40).map (fun i => (i.zero, i.size, i.bytes)) = some (some (.agg #[.int .i64 0, .string ⟨#[]⟩, .string ⟨#[]⟩, .string ⟨#[]⟩, .slice none 0 0, .slice none 0 0, .slice none 0 0, .int .i64 0, .int .i64 0, .int .i64 0, .int .i64 0, .bool false, .bool false, .slice none 0 0]), 14, 192) := by kernel_rfl
theorem p40 : placesOf Try.prog 40 = some [(0, 1), (1, 1), (2, 1), (3, 1), (4, 1), (5, 1), (6, 1), (7, 6), (13, 1)] := by kernel_rfl
theorem s41 : (Try.prog.info? 41).map (·.size) = some 1 := by kernel_rfl
theorem o41 : one Try.prog 41 = true := by kernel_rfl
theorem z41 : (Try.prog.info? 41).bind (·.zero) = some (.nilFunc) := by kernel_rfl
theorem i41 : (Try.prog.info? 41).map (fun i => (i.zero, i.size, i.bytes)) = some (some (.nilFunc), 1, 8) := by kernel_rfl
theorem s42 : (Try.prog.info? 42).map (·.size) = some 1 := by kernel_rfl
theorem o42 : one Try.prog 42 = true := by kernel_rfl
theorem z42 : (Try.prog.info? 42).bind (·.zero) = some (.nilFunc) := by kernel_rfl
theorem i42 : (Try.prog.info? 42).map (fun i => (i.zero, i.size, i.bytes)) = some (some (.nilFunc), 1, 8) := by kernel_rfl
theorem s43 : (Try.prog.info? 43).map (·.size) = some 1 := by kernel_rfl
theorem o43 : one Try.prog 43 = true := by kernel_rfl
theorem z43 : (Try.prog.info? 43).bind (·.zero) = some (.slice none 0 0) := by kernel_rfl
theorem i43 : (Try.prog.info? 43).map (fun i => (i.zero, i.size, i.bytes)) = some (some (.slice none 0 0), 1, 24) := by kernel_rfl
theorem s44 : (Try.prog.info? 44).map (·.size) = some 1 := by kernel_rfl
theorem o44 : one Try.prog 44 = true := by kernel_rfl
theorem z44 : (Try.prog.info? 44).bind (·.zero) = some (.slice none 0 0) := by kernel_rfl
theorem i44 : (Try.prog.info? 44).map (fun i => (i.zero, i.size, i.bytes)) = some (some (.slice none 0 0), 1, 24) := by kernel_rfl
theorem s45 : (Try.prog.info? 45).map (·.size) = some 1 := by kernel_rfl
theorem o45 : one Try.prog 45 = true := by kernel_rfl
theorem z45 : (Try.prog.info? 45).bind (·.zero) = some (.int .i64 0) := by kernel_rfl
theorem i45 : (Try.prog.info? 45).map (fun i => (i.zero, i.size, i.bytes)) = some (some (.int .i64 0), 1, 8) := by kernel_rfl
theorem s46 : (Try.prog.info? 46).map (·.size) = some 1 := by kernel_rfl
theorem o46 : one Try.prog 46 = true := by kernel_rfl
theorem s47 : (Try.prog.info? 47).map (·.size) = some 1 := by kernel_rfl
theorem o47 : one Try.prog 47 = true := by kernel_rfl
theorem z47 : (Try.prog.info? 47).bind (·.zero) = some (.nilFunc) := by kernel_rfl
theorem i47 : (Try.prog.info? 47).map (fun i => (i.zero, i.size, i.bytes)) = some (some (.nilFunc), 1, 8) := by kernel_rfl
theorem s48 : (Try.prog.info? 48).map (·.size) = some 1 := by kernel_rfl
theorem o48 : one Try.prog 48 = true := by kernel_rfl
theorem z48 : (Try.prog.info? 48).bind (·.zero) = some (.slice none 0 0) := by kernel_rfl
theorem i48 : (Try.prog.info? 48).map (fun i => (i.zero, i.size, i.bytes)) = some (some (.slice none 0 0), 1, 24) := by kernel_rfl
theorem s49 : (Try.prog.info? 49).map (·.size) = some 1 := by kernel_rfl
theorem o49 : one Try.prog 49 = true := by kernel_rfl
theorem s50 : (Try.prog.info? 50).map (·.size) = some 1 := by kernel_rfl
theorem o50 : one Try.prog 50 = true := by kernel_rfl
theorem z50 : (Try.prog.info? 50).bind (·.zero) = some (.nilFunc) := by kernel_rfl
theorem i50 : (Try.prog.info? 50).map (fun i => (i.zero, i.size, i.bytes)) = some (some (.nilFunc), 1, 8) := by kernel_rfl
theorem s51 : (Try.prog.info? 51).map (·.size) = some 1 := by kernel_rfl
theorem o51 : one Try.prog 51 = true := by kernel_rfl
theorem z51 : (Try.prog.info? 51).bind (·.zero) = some (.nilFunc) := by kernel_rfl
theorem i51 : (Try.prog.info? 51).map (fun i => (i.zero, i.size, i.bytes)) = some (some (.nilFunc), 1, 8) := by kernel_rfl
theorem s52 : (Try.prog.info? 52).map (·.size) = some 1 := by kernel_rfl
theorem o52 : one Try.prog 52 = true := by kernel_rfl
theorem z52 : (Try.prog.info? 52).bind (·.zero) = some (.slice none 0 0) := by kernel_rfl
theorem i52 : (Try.prog.info? 52).map (fun i => (i.zero, i.size, i.bytes)) = some (some (.slice none 0 0), 1, 24) := by kernel_rfl
theorem s53 : (Try.prog.info? 53).map (·.size) = some 1 := by kernel_rfl
theorem o53 : one Try.prog 53 = true := by kernel_rfl
theorem z53 : (Try.prog.info? 53).bind (·.zero) = some (.nilFunc) := by kernel_rfl
theorem i53 : (Try.prog.info? 53).map (fun i => (i.zero, i.size, i.bytes)) = some (some (.nilFunc), 1, 8) := by kernel_rfl
theorem s54 : (Try.prog.info? 54).map (·.size) = some 1 := by kernel_rfl
theorem o54 : one Try.prog 54 = true := by kernel_rfl
theorem z54 : (Try.prog.info? 54).bind (·.zero) = some (.nilFunc) := by kernel_rfl
theorem i54 : (Try.prog.info? 54).map (fun i => (i.zero, i.size, i.bytes)) = some (some (.nilFunc), 1, 8) := by kernel_rfl
theorem s55 : (Try.prog.info? 55).map (·.size) = some 1 := by kernel_rfl
theorem o55 : one Try.prog 55 = true := by kernel_rfl
theorem z55 : (Try.prog.info? 55).bind (·.zero) = some (.slice none 0 0) := by kernel_rfl
theorem i55 : (Try.prog.info? 55).map (fun i => (i.zero, i.size, i.bytes)) = some (some (.slice none 0 0), 1, 24) := by kernel_rfl
theorem s56 : (Try.prog.info? 56).map (·.size) = some 8 := by kernel_rfl
theorem a56 : agg Try.prog 56 = true := by kernel_rfl
theorem z56 : (Try.prog.info? 56).bind (·.zero) = some (.agg #[.int .i64 0, .int .i64 0, .string ⟨#[]⟩, .string ⟨#[]⟩, .slice none 0 0, .slice none 0 0, .slice none 0 0, .slice none 0 0]) := by kernel_rfl
theorem i56 : (Try.prog.info? 56).map (fun i => (i.zero, i.size, i.bytes)) = some (some (.agg #[.int .i64 0, .int .i64 0, .string ⟨#[]⟩, .string ⟨#[]⟩, .slice none 0 0, .slice none 0 0, .slice none 0 0, .slice none 0 0]), 8, 144) := by kernel_rfl
theorem p56 : placesOf Try.prog 56 = some [(0, 1), (1, 1), (2, 1), (3, 1), (4, 1), (5, 1), (6, 1), (7, 1)] := by kernel_rfl
theorem s57 : (Try.prog.info? 57).map (·.size) = some 8 := by kernel_rfl
theorem a57 : agg Try.prog 57 = true := by kernel_rfl
theorem z57 : (Try.prog.info? 57).bind (·.zero) = some (.agg #[.int .i64 0, .int .i64 0, .string ⟨#[]⟩, .string ⟨#[]⟩, .slice none 0 0, .slice none 0 0, .slice none 0 0, .slice none 0 0]) := by kernel_rfl
theorem i57 : (Try.prog.info? 57).map (fun i => (i.zero, i.size, i.bytes)) = some (some (.agg #[.int .i64 0, .int .i64 0, .string ⟨#[]⟩, .string ⟨#[]⟩, .slice none 0 0, .slice none 0 0, .slice none 0 0, .slice none 0 0]), 8, 144) := by kernel_rfl
theorem p57 : placesOf Try.prog 57 = some [(0, 1), (1, 1), (2, 1), (3, 1), (4, 1), (5, 1), (6, 1), (7, 1)] := by kernel_rfl
theorem s58 : (Try.prog.info? 58).map (·.size) = some 1 := by kernel_rfl
theorem o58 : one Try.prog 58 = true := by kernel_rfl
theorem z58 : (Try.prog.info? 58).bind (·.zero) = some (.nilFunc) := by kernel_rfl
theorem i58 : (Try.prog.info? 58).map (fun i => (i.zero, i.size, i.bytes)) = some (some (.nilFunc), 1, 8) := by kernel_rfl
theorem s59 : (Try.prog.info? 59).map (·.size) = some 1 := by kernel_rfl
theorem o59 : one Try.prog 59 = true := by kernel_rfl
theorem z59 : (Try.prog.info? 59).bind (·.zero) = some (.nilFunc) := by kernel_rfl
theorem i59 : (Try.prog.info? 59).map (fun i => (i.zero, i.size, i.bytes)) = some (some (.nilFunc), 1, 8) := by kernel_rfl
theorem s60 : (Try.prog.info? 60).map (·.size) = some 1 := by kernel_rfl
theorem o60 : one Try.prog 60 = true := by kernel_rfl
theorem z60 : (Try.prog.info? 60).bind (·.zero) = some (.nilFunc) := by kernel_rfl
theorem i60 : (Try.prog.info? 60).map (fun i => (i.zero, i.size, i.bytes)) = some (some (.nilFunc), 1, 8) := by kernel_rfl
theorem s61 : (Try.prog.info? 61).map (·.size) = some 1 := by kernel_rfl
theorem o61 : one Try.prog 61 = true := by kernel_rfl
theorem z61 : (Try.prog.info? 61).bind (·.zero) = some (.nilFunc) := by kernel_rfl
theorem i61 : (Try.prog.info? 61).map (fun i => (i.zero, i.size, i.bytes)) = some (some (.nilFunc), 1, 8) := by kernel_rfl
theorem s62 : (Try.prog.info? 62).map (·.size) = some 1 := by kernel_rfl
theorem o62 : one Try.prog 62 = true := by kernel_rfl
theorem z62 : (Try.prog.info? 62).bind (·.zero) = some (.nilFunc) := by kernel_rfl
theorem i62 : (Try.prog.info? 62).map (fun i => (i.zero, i.size, i.bytes)) = some (some (.nilFunc), 1, 8) := by kernel_rfl
theorem s63 : (Try.prog.info? 63).map (·.size) = some 1 := by kernel_rfl
theorem o63 : one Try.prog 63 = true := by kernel_rfl
theorem z63 : (Try.prog.info? 63).bind (·.zero) = some (.nilFunc) := by kernel_rfl
theorem i63 : (Try.prog.info? 63).map (fun i => (i.zero, i.size, i.bytes)) = some (some (.nilFunc), 1, 8) := by kernel_rfl
theorem s64 : (Try.prog.info? 64).map (·.size) = some 2 := by kernel_rfl
theorem a64 : agg Try.prog 64 = true := by kernel_rfl
theorem z64 : (Try.prog.info? 64).bind (·.zero) = some (.agg #[.string ⟨#[]⟩, .string ⟨#[]⟩]) := by kernel_rfl
theorem i64 : (Try.prog.info? 64).map (fun i => (i.zero, i.size, i.bytes)) = some (some (.agg #[.string ⟨#[]⟩, .string ⟨#[]⟩]), 2, 32) := by kernel_rfl
theorem p64 : placesOf Try.prog 64 = some [(0, 1), (1, 1)] := by kernel_rfl
theorem s65 : (Try.prog.info? 65).map (·.size) = some 2 := by kernel_rfl
theorem a65 : agg Try.prog 65 = true := by kernel_rfl
theorem z65 : (Try.prog.info? 65).bind (·.zero) = some (.agg #[.string ⟨#[]⟩, .string ⟨#[]⟩]) := by kernel_rfl
theorem i65 : (Try.prog.info? 65).map (fun i => (i.zero, i.size, i.bytes)) = some (some (.agg #[.string ⟨#[]⟩, .string ⟨#[]⟩]), 2, 32) := by kernel_rfl
theorem p65 : placesOf Try.prog 65 = some [(0, 1), (1, 1)] := by kernel_rfl
theorem s66 : (Try.prog.info? 66).map (·.size) = some 1 := by kernel_rfl
theorem o66 : one Try.prog 66 = true := by kernel_rfl
theorem z66 : (Try.prog.info? 66).bind (·.zero) = some (.nilFunc) := by kernel_rfl
theorem i66 : (Try.prog.info? 66).map (fun i => (i.zero, i.size, i.bytes)) = some (some (.nilFunc), 1, 8) := by kernel_rfl
theorem s67 : (Try.prog.info? 67).map (·.size) = some 14 := by kernel_rfl
theorem a67 : agg Try.prog 67 = true := by kernel_rfl
theorem z67 : (Try.prog.info? 67).bind (·.zero) = some (.agg #[.int .i64 0, .int .i64 0, .string ⟨#[]⟩, .string ⟨#[]⟩, .string ⟨#[]⟩, .slice none 0 0, .slice none 0 0, .slice none 0 0, .int .i64 0, .int .i64 0, .int .i64 0, .int .i64 0, .bool false, .bool false]) := by kernel_rfl
theorem i67 : (Try.prog.info? 67).map (fun i => (i.zero, i.size, i.bytes)) = some (some (.agg #[.int .i64 0, .int .i64 0, .string ⟨#[]⟩, .string ⟨#[]⟩, .string ⟨#[]⟩, .slice none 0 0, .slice none 0 0, .slice none 0 0, .int .i64 0, .int .i64 0, .int .i64 0, .int .i64 0, .bool false, .bool false]), 14, 176) := by kernel_rfl
theorem p67 : placesOf Try.prog 67 = some [(0, 1), (1, 1), (2, 1), (3, 1), (4, 1), (5, 1), (6, 1), (7, 1), (8, 6)] := by kernel_rfl
theorem s68 : (Try.prog.info? 68).map (·.size) = some 14 := by kernel_rfl
theorem a68 : agg Try.prog 68 = true := by kernel_rfl
theorem z68 : (Try.prog.info? 68).bind (·.zero) = some (.agg #[.int .i64 0, .int .i64 0, .string ⟨#[]⟩, .string ⟨#[]⟩, .string ⟨#[]⟩, .slice none 0 0, .slice none 0 0, .slice none 0 0, .int .i64 0, .int .i64 0, .int .i64 0, .int .i64 0, .bool false, .bool false]) := by kernel_rfl
theorem i68 : (Try.prog.info? 68).map (fun i => (i.zero, i.size, i.bytes)) = some (some (.agg #[.int .i64 0, .int .i64 0, .string ⟨#[]⟩, .string ⟨#[]⟩, .string ⟨#[]⟩, .slice none 0 0, .slice none 0 0, .slice none 0 0, .int .i64 0, .int .i64 0, .int .i64 0, .int .i64 0, .bool false, .bool false]), 14, 176) := by kernel_rfl
theorem p68 : placesOf Try.prog 68 = some [(0, 1), (1, 1), (2, 1), (3, 1), (4, 1), (5, 1), (6, 1), (7, 1), (8, 6)] := by kernel_rfl
theorem s69 : (Try.prog.info? 69).map (·.size) = some 1 := by kernel_rfl
theorem o69 : one Try.prog 69 = true := by kernel_rfl
theorem z69 : (Try.prog.info? 69).bind (·.zero) = some (.nilFunc) := by kernel_rfl
theorem i69 : (Try.prog.info? 69).map (fun i => (i.zero, i.size, i.bytes)) = some (some (.nilFunc), 1, 8) := by kernel_rfl
theorem s70 : (Try.prog.info? 70).map (·.size) = some 1 := by kernel_rfl
theorem o70 : one Try.prog 70 = true := by kernel_rfl
theorem s71 : (Try.prog.info? 71).map (·.size) = some 1 := by kernel_rfl
theorem o71 : one Try.prog 71 = true := by kernel_rfl
theorem z71 : (Try.prog.info? 71).bind (·.zero) = some (.nilFunc) := by kernel_rfl
theorem i71 : (Try.prog.info? 71).map (fun i => (i.zero, i.size, i.bytes)) = some (some (.nilFunc), 1, 8) := by kernel_rfl
theorem s72 : (Try.prog.info? 72).map (·.size) = some 1 := by kernel_rfl
theorem o72 : one Try.prog 72 = true := by kernel_rfl
theorem z72 : (Try.prog.info? 72).bind (·.zero) = some (.pointer none) := by kernel_rfl
theorem i72 : (Try.prog.info? 72).map (fun i => (i.zero, i.size, i.bytes)) = some (some (.pointer none), 1, 8) := by kernel_rfl
theorem s73 : (Try.prog.info? 73).map (·.size) = some 3 := by kernel_rfl
theorem a73 : agg Try.prog 73 = true := by kernel_rfl
theorem z73 : (Try.prog.info? 73).bind (·.zero) = some (.agg #[.string ⟨#[]⟩, .int .i64 0, .bool false]) := by kernel_rfl
theorem i73 : (Try.prog.info? 73).map (fun i => (i.zero, i.size, i.bytes)) = some (some (.agg #[.string ⟨#[]⟩, .int .i64 0, .bool false]), 3, 32) := by kernel_rfl
theorem p73 : placesOf Try.prog 73 = some [(0, 1), (1, 1), (2, 1)] := by kernel_rfl
theorem s74 : (Try.prog.info? 74).map (·.size) = some 3 := by kernel_rfl
theorem a74 : agg Try.prog 74 = true := by kernel_rfl
theorem z74 : (Try.prog.info? 74).bind (·.zero) = some (.agg #[.string ⟨#[]⟩, .int .i64 0, .bool false]) := by kernel_rfl
theorem i74 : (Try.prog.info? 74).map (fun i => (i.zero, i.size, i.bytes)) = some (some (.agg #[.string ⟨#[]⟩, .int .i64 0, .bool false]), 3, 32) := by kernel_rfl
theorem p74 : placesOf Try.prog 74 = some [(0, 1), (1, 1), (2, 1)] := by kernel_rfl
theorem s75 : (Try.prog.info? 75).map (·.size) = some 1 := by kernel_rfl
theorem o75 : one Try.prog 75 = true := by kernel_rfl
theorem z75 : (Try.prog.info? 75).bind (·.zero) = some (.slice none 0 0) := by kernel_rfl
theorem i75 : (Try.prog.info? 75).map (fun i => (i.zero, i.size, i.bytes)) = some (some (.slice none 0 0), 1, 24) := by kernel_rfl
theorem s76 : (Try.prog.info? 76).map (·.size) = some 4 := by kernel_rfl
theorem a76 : agg Try.prog 76 = true := by kernel_rfl
theorem z76 : (Try.prog.info? 76).bind (·.zero) = some (.agg #[.string ⟨#[]⟩, .slice none 0 0, .slice none 0 0, .bool false]) := by kernel_rfl
theorem i76 : (Try.prog.info? 76).map (fun i => (i.zero, i.size, i.bytes)) = some (some (.agg #[.string ⟨#[]⟩, .slice none 0 0, .slice none 0 0, .bool false]), 4, 72) := by kernel_rfl
theorem p76 : placesOf Try.prog 76 = some [(0, 1), (1, 1), (2, 1), (3, 1)] := by kernel_rfl
theorem s77 : (Try.prog.info? 77).map (·.size) = some 4 := by kernel_rfl
theorem a77 : agg Try.prog 77 = true := by kernel_rfl
theorem z77 : (Try.prog.info? 77).bind (·.zero) = some (.agg #[.string ⟨#[]⟩, .slice none 0 0, .slice none 0 0, .bool false]) := by kernel_rfl
theorem i77 : (Try.prog.info? 77).map (fun i => (i.zero, i.size, i.bytes)) = some (some (.agg #[.string ⟨#[]⟩, .slice none 0 0, .slice none 0 0, .bool false]), 4, 72) := by kernel_rfl
theorem p77 : placesOf Try.prog 77 = some [(0, 1), (1, 1), (2, 1), (3, 1)] := by kernel_rfl
theorem s78 : (Try.prog.info? 78).map (·.size) = some 1 := by kernel_rfl
theorem o78 : one Try.prog 78 = true := by kernel_rfl
theorem z78 : (Try.prog.info? 78).bind (·.zero) = some (.nilFunc) := by kernel_rfl
theorem i78 : (Try.prog.info? 78).map (fun i => (i.zero, i.size, i.bytes)) = some (some (.nilFunc), 1, 8) := by kernel_rfl
theorem s79 : (Try.prog.info? 79).map (·.size) = some 1 := by kernel_rfl
theorem o79 : one Try.prog 79 = true := by kernel_rfl
theorem z79 : (Try.prog.info? 79).bind (·.zero) = some (.nilFunc) := by kernel_rfl
theorem i79 : (Try.prog.info? 79).map (fun i => (i.zero, i.size, i.bytes)) = some (some (.nilFunc), 1, 8) := by kernel_rfl
theorem s80 : (Try.prog.info? 80).map (·.size) = some 1 := by kernel_rfl
theorem o80 : one Try.prog 80 = true := by kernel_rfl
theorem z80 : (Try.prog.info? 80).bind (·.zero) = some (.nilFunc) := by kernel_rfl
theorem i80 : (Try.prog.info? 80).map (fun i => (i.zero, i.size, i.bytes)) = some (some (.nilFunc), 1, 8) := by kernel_rfl
theorem s81 : (Try.prog.info? 81).map (·.size) = some 1 := by kernel_rfl
theorem o81 : one Try.prog 81 = true := by kernel_rfl
theorem z81 : (Try.prog.info? 81).bind (·.zero) = some (.slice none 0 0) := by kernel_rfl
theorem i81 : (Try.prog.info? 81).map (fun i => (i.zero, i.size, i.bytes)) = some (some (.slice none 0 0), 1, 24) := by kernel_rfl
theorem s82 : (Try.prog.info? 82).map (·.size) = some 4 := by kernel_rfl
theorem a82 : agg Try.prog 82 = true := by kernel_rfl
theorem z82 : (Try.prog.info? 82).bind (·.zero) = some (.agg #[.string ⟨#[]⟩, .slice none 0 0, .slice none 0 0, .bool false]) := by kernel_rfl
theorem i82 : (Try.prog.info? 82).map (fun i => (i.zero, i.size, i.bytes)) = some (some (.agg #[.string ⟨#[]⟩, .slice none 0 0, .slice none 0 0, .bool false]), 4, 72) := by kernel_rfl
theorem p82 : placesOf Try.prog 82 = some [(0, 1), (1, 1), (2, 1), (3, 1)] := by kernel_rfl
theorem s83 : (Try.prog.info? 83).map (·.size) = some 4 := by kernel_rfl
theorem a83 : agg Try.prog 83 = true := by kernel_rfl
theorem z83 : (Try.prog.info? 83).bind (·.zero) = some (.agg #[.string ⟨#[]⟩, .slice none 0 0, .slice none 0 0, .bool false]) := by kernel_rfl
theorem i83 : (Try.prog.info? 83).map (fun i => (i.zero, i.size, i.bytes)) = some (some (.agg #[.string ⟨#[]⟩, .slice none 0 0, .slice none 0 0, .bool false]), 4, 72) := by kernel_rfl
theorem p83 : placesOf Try.prog 83 = some [(0, 1), (1, 1), (2, 1), (3, 1)] := by kernel_rfl
theorem s84 : (Try.prog.info? 84).map (·.size) = some 1 := by kernel_rfl
theorem o84 : one Try.prog 84 = true := by kernel_rfl
theorem s85 : (Try.prog.info? 85).map (·.size) = some 1 := by kernel_rfl
theorem o85 : one Try.prog 85 = true := by kernel_rfl
theorem z85 : (Try.prog.info? 85).bind (·.zero) = some (.nilFunc) := by kernel_rfl
theorem i85 : (Try.prog.info? 85).map (fun i => (i.zero, i.size, i.bytes)) = some (some (.nilFunc), 1, 8) := by kernel_rfl
theorem s86 : (Try.prog.info? 86).map (·.size) = some 1 := by kernel_rfl
theorem o86 : one Try.prog 86 = true := by kernel_rfl
theorem z86 : (Try.prog.info? 86).bind (·.zero) = some (.pointer none) := by kernel_rfl
theorem i86 : (Try.prog.info? 86).map (fun i => (i.zero, i.size, i.bytes)) = some (some (.pointer none), 1, 8) := by kernel_rfl
theorem s87 : (Try.prog.info? 87).map (·.size) = some 2 := by kernel_rfl
theorem a87 : agg Try.prog 87 = true := by kernel_rfl
theorem z87 : (Try.prog.info? 87).bind (·.zero) = some (.agg #[.slice none 0 0, .slice none 0 0]) := by kernel_rfl
theorem i87 : (Try.prog.info? 87).map (fun i => (i.zero, i.size, i.bytes)) = some (some (.agg #[.slice none 0 0, .slice none 0 0]), 2, 48) := by kernel_rfl
theorem p87 : placesOf Try.prog 87 = some [(0, 1), (1, 1)] := by kernel_rfl
theorem s88 : (Try.prog.info? 88).map (·.size) = some 2 := by kernel_rfl
theorem a88 : agg Try.prog 88 = true := by kernel_rfl
theorem z88 : (Try.prog.info? 88).bind (·.zero) = some (.agg #[.slice none 0 0, .slice none 0 0]) := by kernel_rfl
theorem i88 : (Try.prog.info? 88).map (fun i => (i.zero, i.size, i.bytes)) = some (some (.agg #[.slice none 0 0, .slice none 0 0]), 2, 48) := by kernel_rfl
theorem p88 : placesOf Try.prog 88 = some [(0, 1), (1, 1)] := by kernel_rfl
theorem s89 : (Try.prog.info? 89).map (·.size) = some 1 := by kernel_rfl
theorem o89 : one Try.prog 89 = true := by kernel_rfl
theorem z89 : (Try.prog.info? 89).bind (·.zero) = some (.slice none 0 0) := by kernel_rfl
theorem i89 : (Try.prog.info? 89).map (fun i => (i.zero, i.size, i.bytes)) = some (some (.slice none 0 0), 1, 24) := by kernel_rfl
theorem s90 : (Try.prog.info? 90).map (·.size) = some 1 := by kernel_rfl
theorem o90 : one Try.prog 90 = true := by kernel_rfl
theorem z90 : (Try.prog.info? 90).bind (·.zero) = some (.nilFunc) := by kernel_rfl
theorem i90 : (Try.prog.info? 90).map (fun i => (i.zero, i.size, i.bytes)) = some (some (.nilFunc), 1, 8) := by kernel_rfl
theorem s91 : (Try.prog.info? 91).map (·.size) = some 1 := by kernel_rfl
theorem o91 : one Try.prog 91 = true := by kernel_rfl
theorem z91 : (Try.prog.info? 91).bind (·.zero) = some (.nilFunc) := by kernel_rfl
theorem i91 : (Try.prog.info? 91).map (fun i => (i.zero, i.size, i.bytes)) = some (some (.nilFunc), 1, 8) := by kernel_rfl
theorem s92 : (Try.prog.info? 92).map (·.size) = some 2 := by kernel_rfl
theorem a92 : agg Try.prog 92 = true := by kernel_rfl
theorem z92 : (Try.prog.info? 92).bind (·.zero) = some (.agg #[.string ⟨#[]⟩, .string ⟨#[]⟩]) := by kernel_rfl
theorem i92 : (Try.prog.info? 92).map (fun i => (i.zero, i.size, i.bytes)) = some (some (.agg #[.string ⟨#[]⟩, .string ⟨#[]⟩]), 2, 32) := by kernel_rfl
theorem p92 : placesOf Try.prog 92 = some [(0, 1), (1, 1)] := by kernel_rfl
theorem s93 : (Try.prog.info? 93).map (·.size) = some 2 := by kernel_rfl
theorem a93 : agg Try.prog 93 = true := by kernel_rfl
theorem z93 : (Try.prog.info? 93).bind (·.zero) = some (.agg #[.string ⟨#[]⟩, .int .i64 0]) := by kernel_rfl
theorem i93 : (Try.prog.info? 93).map (fun i => (i.zero, i.size, i.bytes)) = some (some (.agg #[.string ⟨#[]⟩, .int .i64 0]), 2, 24) := by kernel_rfl
theorem p93 : placesOf Try.prog 93 = some [(0, 1), (1, 1)] := by kernel_rfl
theorem s94 : (Try.prog.info? 94).map (·.size) = some 2 := by kernel_rfl
theorem a94 : agg Try.prog 94 = true := by kernel_rfl
theorem z94 : (Try.prog.info? 94).bind (·.zero) = some (.agg #[.string ⟨#[]⟩, .int .i64 0]) := by kernel_rfl
theorem i94 : (Try.prog.info? 94).map (fun i => (i.zero, i.size, i.bytes)) = some (some (.agg #[.string ⟨#[]⟩, .int .i64 0]), 2, 24) := by kernel_rfl
theorem p94 : placesOf Try.prog 94 = some [(0, 1), (1, 1)] := by kernel_rfl
theorem s95 : (Try.prog.info? 95).map (·.size) = some 2 := by kernel_rfl
theorem a95 : agg Try.prog 95 = true := by kernel_rfl
theorem z95 : (Try.prog.info? 95).bind (·.zero) = some (.agg #[.string ⟨#[]⟩, .int .i64 0]) := by kernel_rfl
theorem i95 : (Try.prog.info? 95).map (fun i => (i.zero, i.size, i.bytes)) = some (some (.agg #[.string ⟨#[]⟩, .int .i64 0]), 2, 24) := by kernel_rfl
theorem p95 : placesOf Try.prog 95 = some [(0, 1), (1, 1)] := by kernel_rfl
theorem s96 : (Try.prog.info? 96).map (·.size) = some 1 := by kernel_rfl
theorem o96 : one Try.prog 96 = true := by kernel_rfl
theorem z96 : (Try.prog.info? 96).bind (·.zero) = some (.pointer none) := by kernel_rfl
theorem i96 : (Try.prog.info? 96).map (fun i => (i.zero, i.size, i.bytes)) = some (some (.pointer none), 1, 8) := by kernel_rfl
theorem s97 : (Try.prog.info? 97).map (·.size) = some 1 := by kernel_rfl
theorem o97 : one Try.prog 97 = true := by kernel_rfl
theorem z97 : (Try.prog.info? 97).bind (·.zero) = some (.slice none 0 0) := by kernel_rfl
theorem i97 : (Try.prog.info? 97).map (fun i => (i.zero, i.size, i.bytes)) = some (some (.slice none 0 0), 1, 24) := by kernel_rfl
theorem s98 : (Try.prog.info? 98).map (·.size) = some 2 := by kernel_rfl
theorem a98 : agg Try.prog 98 = true := by kernel_rfl
theorem z98 : (Try.prog.info? 98).bind (·.zero) = some (.agg #[.pointer none, .slice none 0 0]) := by kernel_rfl
theorem i98 : (Try.prog.info? 98).map (fun i => (i.zero, i.size, i.bytes)) = some (some (.agg #[.pointer none, .slice none 0 0]), 2, 32) := by kernel_rfl
theorem p98 : placesOf Try.prog 98 = some [(0, 1), (1, 1)] := by kernel_rfl
theorem s99 : (Try.prog.info? 99).map (·.size) = some 2 := by kernel_rfl
theorem a99 : agg Try.prog 99 = true := by kernel_rfl
theorem z99 : (Try.prog.info? 99).bind (·.zero) = some (.agg #[.pointer none, .slice none 0 0]) := by kernel_rfl
theorem i99 : (Try.prog.info? 99).map (fun i => (i.zero, i.size, i.bytes)) = some (some (.agg #[.pointer none, .slice none 0 0]), 2, 32) := by kernel_rfl
theorem p99 : placesOf Try.prog 99 = some [(0, 1), (1, 1)] := by kernel_rfl
theorem s100 : (Try.prog.info? 100).map (·.size) = some 1 := by kernel_rfl
theorem o100 : one Try.prog 100 = true := by kernel_rfl
theorem z100 : (Try.prog.info? 100).bind (·.zero) = some (.nilIface) := by kernel_rfl
theorem i100 : (Try.prog.info? 100).map (fun i => (i.zero, i.size, i.bytes)) = some (some (.nilIface), 1, 16) := by kernel_rfl
theorem s101 : (Try.prog.info? 101).map (·.size) = some 1 := by kernel_rfl
theorem o101 : one Try.prog 101 = true := by kernel_rfl
theorem z101 : (Try.prog.info? 101).bind (·.zero) = some (.nilIface) := by kernel_rfl
theorem i101 : (Try.prog.info? 101).map (fun i => (i.zero, i.size, i.bytes)) = some (some (.nilIface), 1, 16) := by kernel_rfl
theorem s102 : (Try.prog.info? 102).map (·.size) = some 1 := by kernel_rfl
theorem o102 : one Try.prog 102 = true := by kernel_rfl
theorem s103 : (Try.prog.info? 103).map (·.size) = some 1 := by kernel_rfl
theorem o103 : one Try.prog 103 = true := by kernel_rfl
theorem z103 : (Try.prog.info? 103).bind (·.zero) = some (.nilFunc) := by kernel_rfl
theorem i103 : (Try.prog.info? 103).map (fun i => (i.zero, i.size, i.bytes)) = some (some (.nilFunc), 1, 8) := by kernel_rfl
theorem s104 : (Try.prog.info? 104).map (·.size) = some 1 := by kernel_rfl
theorem o104 : one Try.prog 104 = true := by kernel_rfl
theorem z104 : (Try.prog.info? 104).bind (·.zero) = some (.nilFunc) := by kernel_rfl
theorem i104 : (Try.prog.info? 104).map (fun i => (i.zero, i.size, i.bytes)) = some (some (.nilFunc), 1, 8) := by kernel_rfl
theorem s105 : (Try.prog.info? 105).map (·.size) = some 1 := by kernel_rfl
theorem o105 : one Try.prog 105 = true := by kernel_rfl
theorem z105 : (Try.prog.info? 105).bind (·.zero) = some (.nilFunc) := by kernel_rfl
theorem i105 : (Try.prog.info? 105).map (fun i => (i.zero, i.size, i.bytes)) = some (some (.nilFunc), 1, 8) := by kernel_rfl
theorem s106 : (Try.prog.info? 106).map (·.size) = some 1 := by kernel_rfl
theorem o106 : one Try.prog 106 = true := by kernel_rfl
theorem z106 : (Try.prog.info? 106).bind (·.zero) = some (.nilFunc) := by kernel_rfl
theorem i106 : (Try.prog.info? 106).map (fun i => (i.zero, i.size, i.bytes)) = some (some (.nilFunc), 1, 8) := by kernel_rfl
theorem s107 : (Try.prog.info? 107).map (·.size) = some 1 := by kernel_rfl
theorem o107 : one Try.prog 107 = true := by kernel_rfl
theorem z107 : (Try.prog.info? 107).bind (·.zero) = some (.nilFunc) := by kernel_rfl
theorem i107 : (Try.prog.info? 107).map (fun i => (i.zero, i.size, i.bytes)) = some (some (.nilFunc), 1, 8) := by kernel_rfl
theorem s108 : (Try.prog.info? 108).map (·.size) = some 1 := by kernel_rfl
theorem o108 : one Try.prog 108 = true := by kernel_rfl
theorem z108 : (Try.prog.info? 108).bind (·.zero) = some (.nilFunc) := by kernel_rfl
theorem i108 : (Try.prog.info? 108).map (fun i => (i.zero, i.size, i.bytes)) = some (some (.nilFunc), 1, 8) := by kernel_rfl
theorem s109 : (Try.prog.info? 109).map (·.size) = some 1 := by kernel_rfl
theorem o109 : one Try.prog 109 = true := by kernel_rfl
theorem z109 : (Try.prog.info? 109).bind (·.zero) = some (.nilFunc) := by kernel_rfl
theorem i109 : (Try.prog.info? 109).map (fun i => (i.zero, i.size, i.bytes)) = some (some (.nilFunc), 1, 8) := by kernel_rfl
theorem s110 : (Try.prog.info? 110).map (·.size) = some 1 := by kernel_rfl
theorem o110 : one Try.prog 110 = true := by kernel_rfl
theorem z110 : (Try.prog.info? 110).bind (·.zero) = some (.nilFunc) := by kernel_rfl
theorem i110 : (Try.prog.info? 110).map (fun i => (i.zero, i.size, i.bytes)) = some (some (.nilFunc), 1, 8) := by kernel_rfl
theorem s111 : (Try.prog.info? 111).map (·.size) = some 3 := by kernel_rfl
theorem a111 : agg Try.prog 111 = true := by kernel_rfl
theorem z111 : (Try.prog.info? 111).bind (·.zero) = some (.agg #[.string ⟨#[]⟩, .string ⟨#[]⟩, .bool false]) := by kernel_rfl
theorem i111 : (Try.prog.info? 111).map (fun i => (i.zero, i.size, i.bytes)) = some (some (.agg #[.string ⟨#[]⟩, .string ⟨#[]⟩, .bool false]), 3, 40) := by kernel_rfl
theorem p111 : placesOf Try.prog 111 = some [(0, 1), (1, 1), (2, 1)] := by kernel_rfl
theorem s112 : (Try.prog.info? 112).map (·.size) = some 3 := by kernel_rfl
theorem a112 : agg Try.prog 112 = true := by kernel_rfl
theorem z112 : (Try.prog.info? 112).bind (·.zero) = some (.agg #[.string ⟨#[]⟩, .string ⟨#[]⟩, .bool false]) := by kernel_rfl
theorem i112 : (Try.prog.info? 112).map (fun i => (i.zero, i.size, i.bytes)) = some (some (.agg #[.string ⟨#[]⟩, .string ⟨#[]⟩, .bool false]), 3, 40) := by kernel_rfl
theorem p112 : placesOf Try.prog 112 = some [(0, 1), (1, 1), (2, 1)] := by kernel_rfl
theorem s113 : (Try.prog.info? 113).map (·.size) = some 1 := by kernel_rfl
theorem o113 : one Try.prog 113 = true := by kernel_rfl
theorem z113 : (Try.prog.info? 113).bind (·.zero) = some (.nilFunc) := by kernel_rfl
theorem i113 : (Try.prog.info? 113).map (fun i => (i.zero, i.size, i.bytes)) = some (some (.nilFunc), 1, 8) := by kernel_rfl
theorem s114 : (Try.prog.info? 114).map (·.size) = some 1 := by kernel_rfl
theorem o114 : one Try.prog 114 = true := by kernel_rfl
theorem s115 : (Try.prog.info? 115).map (·.size) = some 1 := by kernel_rfl
theorem o115 : one Try.prog 115 = true := by kernel_rfl
theorem z115 : (Try.prog.info? 115).bind (·.zero) = some (.nilFunc) := by kernel_rfl
theorem i115 : (Try.prog.info? 115).map (fun i => (i.zero, i.size, i.bytes)) = some (some (.nilFunc), 1, 8) := by kernel_rfl
theorem s116 : (Try.prog.info? 116).map (·.size) = some 3 := by kernel_rfl
theorem a116 : agg Try.prog 116 = true := by kernel_rfl
theorem z116 : (Try.prog.info? 116).bind (·.zero) = some (.agg #[.string ⟨#[]⟩, .string ⟨#[]⟩, .bool false]) := by kernel_rfl
theorem i116 : (Try.prog.info? 116).map (fun i => (i.zero, i.size, i.bytes)) = some (some (.agg #[.string ⟨#[]⟩, .string ⟨#[]⟩, .bool false]), 3, 40) := by kernel_rfl
theorem p116 : placesOf Try.prog 116 = some [(0, 1), (1, 1), (2, 1)] := by kernel_rfl
theorem s117 : (Try.prog.info? 117).map (·.size) = some 1 := by kernel_rfl
theorem o117 : one Try.prog 117 = true := by kernel_rfl
theorem z117 : (Try.prog.info? 117).bind (·.zero) = some (.nilFunc) := by kernel_rfl
theorem i117 : (Try.prog.info? 117).map (fun i => (i.zero, i.size, i.bytes)) = some (some (.nilFunc), 1, 8) := by kernel_rfl
theorem s118 : (Try.prog.info? 118).map (·.size) = some 1 := by kernel_rfl
theorem o118 : one Try.prog 118 = true := by kernel_rfl
theorem z118 : (Try.prog.info? 118).bind (·.zero) = some (.nilFunc) := by kernel_rfl
theorem i118 : (Try.prog.info? 118).map (fun i => (i.zero, i.size, i.bytes)) = some (some (.nilFunc), 1, 8) := by kernel_rfl
theorem s119 : (Try.prog.info? 119).map (·.size) = some 1 := by kernel_rfl
theorem o119 : one Try.prog 119 = true := by kernel_rfl
theorem z119 : (Try.prog.info? 119).bind (·.zero) = some (.nilFunc) := by kernel_rfl
theorem i119 : (Try.prog.info? 119).map (fun i => (i.zero, i.size, i.bytes)) = some (some (.nilFunc), 1, 8) := by kernel_rfl
theorem s120 : (Try.prog.info? 120).map (·.size) = some 1 := by kernel_rfl
theorem o120 : one Try.prog 120 = true := by kernel_rfl
theorem z120 : (Try.prog.info? 120).bind (·.zero) = some (.nilFunc) := by kernel_rfl
theorem i120 : (Try.prog.info? 120).map (fun i => (i.zero, i.size, i.bytes)) = some (some (.nilFunc), 1, 8) := by kernel_rfl
theorem s121 : (Try.prog.info? 121).map (·.size) = some 1 := by kernel_rfl
theorem o121 : one Try.prog 121 = true := by kernel_rfl
theorem z121 : (Try.prog.info? 121).bind (·.zero) = some (.pointer none) := by kernel_rfl
theorem i121 : (Try.prog.info? 121).map (fun i => (i.zero, i.size, i.bytes)) = some (some (.pointer none), 1, 8) := by kernel_rfl
theorem s122 : (Try.prog.info? 122).map (·.size) = some 1 := by kernel_rfl
theorem o122 : one Try.prog 122 = true := by kernel_rfl
theorem s123 : (Try.prog.info? 123).map (·.size) = some 1 := by kernel_rfl
theorem o123 : one Try.prog 123 = true := by kernel_rfl
theorem z123 : (Try.prog.info? 123).bind (·.zero) = some (.nilFunc) := by kernel_rfl
theorem i123 : (Try.prog.info? 123).map (fun i => (i.zero, i.size, i.bytes)) = some (some (.nilFunc), 1, 8) := by kernel_rfl
theorem s124 : (Try.prog.info? 124).map (·.size) = some 1 := by kernel_rfl
theorem o124 : one Try.prog 124 = true := by kernel_rfl
theorem z124 : (Try.prog.info? 124).bind (·.zero) = some (.nilFunc) := by kernel_rfl
theorem i124 : (Try.prog.info? 124).map (fun i => (i.zero, i.size, i.bytes)) = some (some (.nilFunc), 1, 8) := by kernel_rfl
theorem s125 : (Try.prog.info? 125).map (·.size) = some 1 := by kernel_rfl
theorem o125 : one Try.prog 125 = true := by kernel_rfl
theorem z125 : (Try.prog.info? 125).bind (·.zero) = some (.nilFunc) := by kernel_rfl
theorem i125 : (Try.prog.info? 125).map (fun i => (i.zero, i.size, i.bytes)) = some (some (.nilFunc), 1, 8) := by kernel_rfl
theorem s126 : (Try.prog.info? 126).map (·.size) = some 1 := by kernel_rfl
theorem o126 : one Try.prog 126 = true := by kernel_rfl
theorem z126 : (Try.prog.info? 126).bind (·.zero) = some (.nilFunc) := by kernel_rfl
theorem i126 : (Try.prog.info? 126).map (fun i => (i.zero, i.size, i.bytes)) = some (some (.nilFunc), 1, 8) := by kernel_rfl
theorem s127 : (Try.prog.info? 127).map (·.size) = some 1 := by kernel_rfl
theorem o127 : one Try.prog 127 = true := by kernel_rfl
theorem z127 : (Try.prog.info? 127).bind (·.zero) = some (.nilFunc) := by kernel_rfl
theorem i127 : (Try.prog.info? 127).map (fun i => (i.zero, i.size, i.bytes)) = some (some (.nilFunc), 1, 8) := by kernel_rfl
theorem s128 : (Try.prog.info? 128).map (·.size) = some 1 := by kernel_rfl
theorem o128 : one Try.prog 128 = true := by kernel_rfl
theorem z128 : (Try.prog.info? 128).bind (·.zero) = some (.nilFunc) := by kernel_rfl
theorem i128 : (Try.prog.info? 128).map (fun i => (i.zero, i.size, i.bytes)) = some (some (.nilFunc), 1, 8) := by kernel_rfl
theorem s129 : (Try.prog.info? 129).map (·.size) = some 1 := by kernel_rfl
theorem o129 : one Try.prog 129 = true := by kernel_rfl
theorem z129 : (Try.prog.info? 129).bind (·.zero) = some (.nilFunc) := by kernel_rfl
theorem i129 : (Try.prog.info? 129).map (fun i => (i.zero, i.size, i.bytes)) = some (some (.nilFunc), 1, 8) := by kernel_rfl
theorem s130 : (Try.prog.info? 130).map (·.size) = some 1 := by kernel_rfl
theorem o130 : one Try.prog 130 = true := by kernel_rfl
theorem z130 : (Try.prog.info? 130).bind (·.zero) = some (.nilFunc) := by kernel_rfl
theorem i130 : (Try.prog.info? 130).map (fun i => (i.zero, i.size, i.bytes)) = some (some (.nilFunc), 1, 8) := by kernel_rfl
theorem s131 : (Try.prog.info? 131).map (·.size) = some 1 := by kernel_rfl
theorem o131 : one Try.prog 131 = true := by kernel_rfl
theorem z131 : (Try.prog.info? 131).bind (·.zero) = some (.nilFunc) := by kernel_rfl
theorem i131 : (Try.prog.info? 131).map (fun i => (i.zero, i.size, i.bytes)) = some (some (.nilFunc), 1, 8) := by kernel_rfl
theorem s132 : (Try.prog.info? 132).map (·.size) = some 1 := by kernel_rfl
theorem o132 : one Try.prog 132 = true := by kernel_rfl
theorem z132 : (Try.prog.info? 132).bind (·.zero) = some (.pointer none) := by kernel_rfl
theorem i132 : (Try.prog.info? 132).map (fun i => (i.zero, i.size, i.bytes)) = some (some (.pointer none), 1, 8) := by kernel_rfl
theorem s133 : (Try.prog.info? 133).map (·.size) = some 1 := by kernel_rfl
theorem o133 : one Try.prog 133 = true := by kernel_rfl
theorem z133 : (Try.prog.info? 133).bind (·.zero) = some (.nilFunc) := by kernel_rfl
theorem i133 : (Try.prog.info? 133).map (fun i => (i.zero, i.size, i.bytes)) = some (some (.nilFunc), 1, 8) := by kernel_rfl
theorem s134 : (Try.prog.info? 134).map (·.size) = some 1 := by kernel_rfl
theorem o134 : one Try.prog 134 = true := by kernel_rfl
theorem z134 : (Try.prog.info? 134).bind (·.zero) = some (.nilFunc) := by kernel_rfl
theorem i134 : (Try.prog.info? 134).map (fun i => (i.zero, i.size, i.bytes)) = some (some (.nilFunc), 1, 8) := by kernel_rfl
theorem s135 : (Try.prog.info? 135).map (·.size) = some 1 := by kernel_rfl
theorem o135 : one Try.prog 135 = true := by kernel_rfl
theorem z135 : (Try.prog.info? 135).bind (·.zero) = some (.nilFunc) := by kernel_rfl
theorem i135 : (Try.prog.info? 135).map (fun i => (i.zero, i.size, i.bytes)) = some (some (.nilFunc), 1, 8) := by kernel_rfl
theorem s136 : (Try.prog.info? 136).map (·.size) = some 1 := by kernel_rfl
theorem o136 : one Try.prog 136 = true := by kernel_rfl
theorem z136 : (Try.prog.info? 136).bind (·.zero) = some (.nilFunc) := by kernel_rfl
theorem i136 : (Try.prog.info? 136).map (fun i => (i.zero, i.size, i.bytes)) = some (some (.nilFunc), 1, 8) := by kernel_rfl
theorem s137 : (Try.prog.info? 137).map (·.size) = some 1 := by kernel_rfl
theorem o137 : one Try.prog 137 = true := by kernel_rfl
theorem z137 : (Try.prog.info? 137).bind (·.zero) = some (.nilFunc) := by kernel_rfl
theorem i137 : (Try.prog.info? 137).map (fun i => (i.zero, i.size, i.bytes)) = some (some (.nilFunc), 1, 8) := by kernel_rfl
theorem s138 : (Try.prog.info? 138).map (·.size) = some 1 := by kernel_rfl
theorem o138 : one Try.prog 138 = true := by kernel_rfl
theorem z138 : (Try.prog.info? 138).bind (·.zero) = some (.nilFunc) := by kernel_rfl
theorem i138 : (Try.prog.info? 138).map (fun i => (i.zero, i.size, i.bytes)) = some (some (.nilFunc), 1, 8) := by kernel_rfl
theorem s139 : (Try.prog.info? 139).map (·.size) = some 1 := by kernel_rfl
theorem o139 : one Try.prog 139 = true := by kernel_rfl
theorem z139 : (Try.prog.info? 139).bind (·.zero) = some (.nilFunc) := by kernel_rfl
theorem i139 : (Try.prog.info? 139).map (fun i => (i.zero, i.size, i.bytes)) = some (some (.nilFunc), 1, 8) := by kernel_rfl
theorem s140 : (Try.prog.info? 140).map (·.size) = some 1 := by kernel_rfl
theorem o140 : one Try.prog 140 = true := by kernel_rfl
theorem z140 : (Try.prog.info? 140).bind (·.zero) = some (.nilFunc) := by kernel_rfl
theorem i140 : (Try.prog.info? 140).map (fun i => (i.zero, i.size, i.bytes)) = some (some (.nilFunc), 1, 8) := by kernel_rfl
theorem s141 : (Try.prog.info? 141).map (·.size) = some 1 := by kernel_rfl
theorem o141 : one Try.prog 141 = true := by kernel_rfl
theorem z141 : (Try.prog.info? 141).bind (·.zero) = some (.nilFunc) := by kernel_rfl
theorem i141 : (Try.prog.info? 141).map (fun i => (i.zero, i.size, i.bytes)) = some (some (.nilFunc), 1, 8) := by kernel_rfl
theorem s142 : (Try.prog.info? 142).map (·.size) = some 1 := by kernel_rfl
theorem o142 : one Try.prog 142 = true := by kernel_rfl
theorem z142 : (Try.prog.info? 142).bind (·.zero) = some (.nilFunc) := by kernel_rfl
theorem i142 : (Try.prog.info? 142).map (fun i => (i.zero, i.size, i.bytes)) = some (some (.nilFunc), 1, 8) := by kernel_rfl
theorem s143 : (Try.prog.info? 143).map (·.size) = some 1 := by kernel_rfl
theorem o143 : one Try.prog 143 = true := by kernel_rfl
theorem z143 : (Try.prog.info? 143).bind (·.zero) = some (.nilFunc) := by kernel_rfl
theorem i143 : (Try.prog.info? 143).map (fun i => (i.zero, i.size, i.bytes)) = some (some (.nilFunc), 1, 8) := by kernel_rfl
theorem s144 : (Try.prog.info? 144).map (·.size) = some 256 := by kernel_rfl
theorem a144 : agg Try.prog 144 = true := by kernel_rfl
theorem z144 : (Try.prog.info? 144).bind (·.zero) = some (.agg #[.bool false, .bool false, .bool false, .bool false, .bool false, .bool false, .bool false, .bool false, .bool false, .bool false, .bool false, .bool false, .bool false, .bool false, .bool false, .bool false, .bool false, .bool false, .bool false, .bool false, .bool false, .bool false, .bool false, .bool false, .bool false, .bool false, .bool false, .bool false, .bool false, .bool false, .bool false, .bool false, .bool false, .bool false, .bool false, .bool false, .bool false, .bool false, .bool false, .bool false, .bool false, .bool false, .bool false, .bool false, .bool false, .bool false, .bool false, .bool false, .bool false, .bool false, .bool false, .bool false, .bool false, .bool false, .bool false, .bool false, .bool false, .bool false, .bool false, .bool false, .bool false, .bool false, .bool false, .bool false, .bool false, .bool false, .bool false, .bool false, .bool false, .bool false, .bool false, .bool false, .bool false, .bool false, .bool false, .bool false, .bool false, .bool false, .bool false, .bool false, .bool false, .bool false, .bool false, .bool false, .bool false, .bool false, .bool false, .bool false, .bool false, .bool false, .bool false, .bool false, .bool false, .bool false, .bool false, .bool false, .bool false, .bool false, .bool false, .bool false, .bool false, .bool false, .bool false, .bool false, .bool false, .bool false, .bool false, .bool false, .bool false, .bool false, .bool false, .bool false, .bool false, .bool false, .bool false, .bool false, .bool false, .bool false, .bool false, .bool false, .bool false, .bool false, .bool false, .bool false, .bool false, .bool false, .bool false, .bool false, .bool false, .bool false, .bool false, .bool false, .bool false, .bool false, .bool false, .bool false, .bool false, .bool false, .bool false, .bool false, .bool false, .bool false, .bool false, .bool false, .bool false, .bool false, .bool false, .bool false, .bool false, .bool false, .bool false, .bool false, .bool false, .bool false, .bool false, .bool false, .bool false, .bool false, .bool false, .bool false, .bool false, .bool false, .bool false, .bool false, .bool false, .bool false, .bool false, .bool false, .bool false, .bool false, .bool false, .bool false, .bool false, .bool false, .bool false, .bool false, .bool false, .bool false, .bool false, .bool false, .bool false, .bool false, .bool false, .bool false, .bool false, .bool false, .bool false, .bool false, .bool false, .bool false, .bool false, .bool false, .bool false, .bool false, .bool false, .bool false, .bool false, .bool false, .bool false, .bool false, .bool false, .bool false, .bool false, .bool false, .bool false, .bool false, .bool false, .bool false, .bool false, .bool false, .bool false, .bool false, .bool false, .bool false, .bool false, .bool false, .bool false, .bool false, .bool false, .bool false, .bool false, .bool false, .bool false, .bool false, .bool false, .bool false, .bool false, .bool false, .bool false, .bool false, .bool false, .bool false, .bool false, .bool false, .bool false, .bool false, .bool false, .bool false, .bool false, .bool false, .bool false, .bool false, .bool false, .bool false, .bool false, .bool false, .bool false, .bool false, .bool false, .bool false, .bool false, .bool false, .bool false, .bool false, .bool false, .bool false]) := by kernel_rfl
theorem i144 : (Try.prog.info? 144).map (fun i => (i.zero, i.size, i.bytes)) = some (some (.agg #[.bool false, .bool false, .bool false, .bool false, .bool false, .bool false, .bool false, .bool false, .bool false, .bool false, .bool false, .bool false, .bool false, .bool false, .bool false, .bool false, .bool false, .bool false, .bool false, .bool false, .bool false, .bool false, .bool false, .bool false, .bool false, .bool false, .bool false, .bool false, .bool false, .bool false, .bool false, .bool false, .bool false, .bool false, .bool false, .bool false, .bool false, .bool false, .bool false, .bool false, .bool false, .bool false, .bool false, .bool false, .bool false, .bool false, .bool false, .bool false, .bool false, .bool false, .bool false, .bool false, .bool false, .bool false, .bool false, .bool false, .bool false, .bool false, .bool false, .bool false, .bool false, .bool false, .bool false, .bool false, .bool false, .bool false, .bool false, .bool false, .bool false, .bool false, .bool false, .bool false, .bool false, .bool false, .bool false, .bool false, .bool false, .bool false, .bool false, .bool false, .bool false, .bool false, .bool false, .bool false, .bool false, .bool false, .bool false, .bool false, .bool false, .bool false, .bool false, .bool false, .bool false, .bool false, .bool false, .bool false, .bool false, .bool false, .bool false, .bool false, .bool false, .bool false, .bool false, .bool false, .bool false, .bool false, .bool false, .bool false, .bool false, .bool false, .bool false, .bool false, .bool false, .bool false, .bool false, .bool false, .bool false, .bool false, .bool false, .bool false, .bool false, .bool false, .bool false, .bool false, .bool false, .bool false, .bool false, .bool false, .bool false, .bool false, .bool false, .bool false, .bool false, .bool false, .bool false, .bool false, .bool false, .bool false, .bool false, .bool false, .bool false, .bool false, .bool false, .bool false, .bool false, .bool false, .bool false, .bool false, .bool false, .bool false, .bool false, .bool false, .bool false, .bool false, .bool false, .bool false, .bool false, .bool false, .bool false, .bool false, .bool false, .bool false, .bool false, .bool false, .bool false, .bool false, .bool false, .bool false, .bool false, .bool false, .bool false, .bool false, .bool false, .bool false, .bool false, .bool false, .bool false, .bool false, .bool false, .bool false, .bool false, .bool false, .bool false, .bool false, .bool false, .bool false, .bool false, .bool false, .bool false, .bool false, .bool false, .bool false, .bool false, .bool false, .bool false, .bool false, .bool false, .bool false, .bool false, .bool false, .bool false, .bool false, .bool false, .bool false, .bool false, .bool false, .bool false, .bool false, .bool false, .bool false, .bool false, .bool false, .bool false, .bool false, .bool false, .bool false, .bool false, .bool false, .bool false, .bool false, .bool false, .bool false, .bool false, .bool false, .bool false, .bool false, .bool false, .bool false, .bool false, .bool false, .bool false, .bool false, .bool false, .bool false, .bool false, .bool false, .bool false, .bool false, .bool false, .bool false, .bool false, .bool false, .bool false, .bool false, .bool false, .bool false, .bool false, .bool false, .bool false, .bool false, .bool false, .bool false, .bool false, .bool false, .bool false, .bool false]), 256, 256) := by kernel_rfl
theorem s145 : (Try.prog.info? 145).map (·.size) = some 256 := by kernel_rfl
theorem a145 : agg Try.prog 145 = true := by kernel_rfl
theorem z145 : (Try.prog.info? 145).bind (·.zero) = some (.agg #[.bool false, .bool false, .bool false, .bool false, .bool false, .bool false, .bool false, .bool false, .bool false, .bool false, .bool false, .bool false, .bool false, .bool false, .bool false, .bool false, .bool false, .bool false, .bool false, .bool false, .bool false, .bool false, .bool false, .bool false, .bool false, .bool false, .bool false, .bool false, .bool false, .bool false, .bool false, .bool false, .bool false, .bool false, .bool false, .bool false, .bool false, .bool false, .bool false, .bool false, .bool false, .bool false, .bool false, .bool false, .bool false, .bool false, .bool false, .bool false, .bool false, .bool false, .bool false, .bool false, .bool false, .bool false, .bool false, .bool false, .bool false, .bool false, .bool false, .bool false, .bool false, .bool false, .bool false, .bool false, .bool false, .bool false, .bool false, .bool false, .bool false, .bool false, .bool false, .bool false, .bool false, .bool false, .bool false, .bool false, .bool false, .bool false, .bool false, .bool false, .bool false, .bool false, .bool false, .bool false, .bool false, .bool false, .bool false, .bool false, .bool false, .bool false, .bool false, .bool false, .bool false, .bool false, .bool false, .bool false, .bool false, .bool false, .bool false, .bool false, .bool false, .bool false, .bool false, .bool false, .bool false, .bool false, .bool false, .bool false, .bool false, .bool false, .bool false, .bool false, .bool false, .bool false, .bool false, .bool false, .bool false, .bool false, .bool false, .bool false, .bool false, .bool false, .bool false, .bool false, .bool false, .bool false, .bool false, .bool false, .bool false, .bool false, .bool false, .bool false, .bool false, .bool false, .bool false, .bool false, .bool false, .bool false, .bool false, .bool false, .bool false, .bool false, .bool false, .bool false, .bool false, .bool false, .bool false, .bool false, .bool false, .bool false, .bool false, .bool false, .bool false, .bool false, .bool false, .bool false, .bool false, .bool false, .bool false, .bool false, .bool false, .bool false, .bool false, .bool false, .bool false, .bool false, .bool false, .bool false, .bool false, .bool false, .bool false, .bool false, .bool false, .bool false, .bool false, .bool false, .bool false, .bool false, .bool false, .bool false, .bool false, .bool false, .bool false, .bool false, .bool false, .bool false, .bool false, .bool false, .bool false, .bool false, .bool false, .bool false, .bool false, .bool false, .bool false, .bool false, .bool false, .bool false, .bool false, .bool false, .bool false, .bool false, .bool false, .bool false, .bool false, .bool false, .bool false, .bool false, .bool false, .bool false, .bool false, .bool false, .bool false, .bool false, .bool false, .bool false, .bool false, .bool false, .bool false, .bool false, .bool false, .bool false, .bool false, .bool false, .bool false, .bool false, .bool false, .bool false, .bool false, .bool false, .bool false, .bool false, .bool false, .bool false, .bool false, .bool false, .bool false, .bool false, .bool false, .bool false, .bool false, .bool false, .bool false, .bool false, .bool false, .bool false, .bool false, .bool false, .bool false, .bool false, .bool false, .bool false, .bool false, .bool false, .bool false, .bool false]) := by kernel_rfl
theorem i145 : (Try.prog.info? 145).map (fun i => (i.zero, i.size, i.bytes)) = some (some (.agg #[.bool false, .bool false, .bool false, .bool false, .bool false, .bool false, .bool false, .bool false, .bool false, .bool false, .bool false, .bool false, .bool false, .bool false, .bool false, .bool false, .bool false, .bool false, .bool false, .bool false, .bool false, .bool false, .bool false, .bool false, .bool false, .bool false, .bool false, .bool false, .bool false, .bool false, .bool false, .bool false, .bool false, .bool false, .bool false, .bool false, .bool false, .bool false, .bool false, .bool false, .bool false, .bool false, .bool false, .bool false, .bool false, .bool false, .bool false, .bool false, .bool false, .bool false, .bool false, .bool false, .bool false, .bool false, .bool false, .bool false, .bool false, .bool false, .bool false, .bool false, .bool false, .bool false, .bool false, .bool false, .bool false, .bool false, .bool false, .bool false, .bool false, .bool false, .bool false, .bool false, .bool false, .bool false, .bool false, .bool false, .bool false, .bool false, .bool false, .bool false, .bool false, .bool false, .bool false, .bool false, .bool false, .bool false, .bool false, .bool false, .bool false, .bool false, .bool false, .bool false, .bool false, .bool false, .bool false, .bool false, .bool false, .bool false, .bool false, .bool false, .bool false, .bool false, .bool false, .bool false, .bool false, .bool false, .bool false, .bool false, .bool false, .bool false, .bool false, .bool false, .bool false, .bool false, .bool false, .bool false, .bool false, .bool false, .bool false, .bool false, .bool false, .bool false, .bool false, .bool false, .bool false, .bool false, .bool false, .bool false, .bool false, .bool false, .bool false, .bool false, .bool false, .bool false, .bool false, .bool false, .bool false, .bool false, .bool false, .bool false, .bool false, .bool false, .bool false, .bool false, .bool false, .bool false, .bool false, .bool false, .bool false, .bool false, .bool false, .bool false, .bool false, .bool false, .bool false, .bool false, .bool false, .bool false, .bool false, .bool false, .bool false, .bool false, .bool false, .bool false, .bool false, .bool false, .bool false, .bool false, .bool false, .bool false, .bool false, .bool false, .bool false, .bool false, .bool false, .bool false, .bool false, .bool false, .bool false, .bool false, .bool false, .bool false, .bool false, .bool false, .bool false, .bool false, .bool false, .bool false, .bool false, .bool false, .bool false, .bool false, .bool false, .bool false, .bool false, .bool false, .bool false, .bool false, .bool false, .bool false, .bool false, .bool false, .bool false, .bool false, .bool false, .bool false, .bool false, .bool false, .bool false, .bool false, .bool false, .bool false, .bool false, .bool false, .bool false, .bool false, .bool false, .bool false, .bool false, .bool false, .bool false, .bool false, .bool false, .bool false, .bool false, .bool false, .bool false, .bool false, .bool false, .bool false, .bool false, .bool false, .bool false, .bool false, .bool false, .bool false, .bool false, .bool false, .bool false, .bool false, .bool false, .bool false, .bool false, .bool false, .bool false, .bool false, .bool false, .bool false, .bool false, .bool false, .bool false, .bool false, .bool false, .bool false, .bool false, .bool false]), 256, 256) := by kernel_rfl
theorem s146 : (Try.prog.info? 146).map (·.size) = some 1 := by kernel_rfl
theorem o146 : one Try.prog 146 = true := by kernel_rfl
theorem s147 : (Try.prog.info? 147).map (·.size) = some 1 := by kernel_rfl
theorem o147 : one Try.prog 147 = true := by kernel_rfl
theorem z147 : (Try.prog.info? 147).bind (·.zero) = some (.nilFunc) := by kernel_rfl
theorem i147 : (Try.prog.info? 147).map (fun i => (i.zero, i.size, i.bytes)) = some (some (.nilFunc), 1, 8) := by kernel_rfl
theorem s148 : (Try.prog.info? 148).map (·.size) = some 1 := by kernel_rfl
theorem o148 : one Try.prog 148 = true := by kernel_rfl
theorem z148 : (Try.prog.info? 148).bind (·.zero) = some (.nilFunc) := by kernel_rfl
theorem i148 : (Try.prog.info? 148).map (fun i => (i.zero, i.size, i.bytes)) = some (some (.nilFunc), 1, 8) := by kernel_rfl
theorem s149 : (Try.prog.info? 149).map (·.size) = some 1 := by kernel_rfl
theorem o149 : one Try.prog 149 = true := by kernel_rfl
theorem z149 : (Try.prog.info? 149).bind (·.zero) = some (.nilFunc) := by kernel_rfl
theorem i149 : (Try.prog.info? 149).map (fun i => (i.zero, i.size, i.bytes)) = some (some (.nilFunc), 1, 8) := by kernel_rfl
theorem s150 : (Try.prog.info? 150).map (·.size) = some 1 := by kernel_rfl
theorem o150 : one Try.prog 150 = true := by kernel_rfl
theorem s151 : (Try.prog.info? 151).map (·.size) = some 1 := by kernel_rfl
theorem o151 : one Try.prog 151 = true := by kernel_rfl
theorem z151 : (Try.prog.info? 151).bind (·.zero) = some (.nilFunc) := by kernel_rfl
theorem i151 : (Try.prog.info? 151).map (fun i => (i.zero, i.size, i.bytes)) = some (some (.nilFunc), 1, 8) := by kernel_rfl
theorem s152 : (Try.prog.info? 152).map (·.size) = some 1 := by kernel_rfl
theorem o152 : one Try.prog 152 = true := by kernel_rfl
theorem z152 : (Try.prog.info? 152).bind (·.zero) = some (.int .u64 0) := by kernel_rfl
theorem i152 : (Try.prog.info? 152).map (fun i => (i.zero, i.size, i.bytes)) = some (some (.int .u64 0), 1, 8) := by kernel_rfl
theorem s153 : (Try.prog.info? 153).map (·.size) = some 1 := by kernel_rfl
theorem o153 : one Try.prog 153 = true := by kernel_rfl
theorem z153 : (Try.prog.info? 153).bind (·.zero) = some (.nilFunc) := by kernel_rfl
theorem i153 : (Try.prog.info? 153).map (fun i => (i.zero, i.size, i.bytes)) = some (some (.nilFunc), 1, 8) := by kernel_rfl
theorem s154 : (Try.prog.info? 154).map (·.size) = some 1 := by kernel_rfl
theorem o154 : one Try.prog 154 = true := by kernel_rfl
theorem z154 : (Try.prog.info? 154).bind (·.zero) = some (.nilFunc) := by kernel_rfl
theorem i154 : (Try.prog.info? 154).map (fun i => (i.zero, i.size, i.bytes)) = some (some (.nilFunc), 1, 8) := by kernel_rfl
theorem s155 : (Try.prog.info? 155).map (·.size) = some 1 := by kernel_rfl
theorem o155 : one Try.prog 155 = true := by kernel_rfl
theorem z155 : (Try.prog.info? 155).bind (·.zero) = some (.nilFunc) := by kernel_rfl
theorem i155 : (Try.prog.info? 155).map (fun i => (i.zero, i.size, i.bytes)) = some (some (.nilFunc), 1, 8) := by kernel_rfl
theorem s156 : (Try.prog.info? 156).map (·.size) = some 1 := by kernel_rfl
theorem o156 : one Try.prog 156 = true := by kernel_rfl
theorem z156 : (Try.prog.info? 156).bind (·.zero) = some (.pointer none) := by kernel_rfl
theorem i156 : (Try.prog.info? 156).map (fun i => (i.zero, i.size, i.bytes)) = some (some (.pointer none), 1, 8) := by kernel_rfl
theorem s157 : (Try.prog.info? 157).map (·.size) = some 1 := by kernel_rfl
theorem o157 : one Try.prog 157 = true := by kernel_rfl
theorem z157 : (Try.prog.info? 157).bind (·.zero) = some (.nilFunc) := by kernel_rfl
theorem i157 : (Try.prog.info? 157).map (fun i => (i.zero, i.size, i.bytes)) = some (some (.nilFunc), 1, 8) := by kernel_rfl
theorem s158 : (Try.prog.info? 158).map (·.size) = some 1 := by kernel_rfl
theorem o158 : one Try.prog 158 = true := by kernel_rfl
theorem z158 : (Try.prog.info? 158).bind (·.zero) = some (.nilFunc) := by kernel_rfl
theorem i158 : (Try.prog.info? 158).map (fun i => (i.zero, i.size, i.bytes)) = some (some (.nilFunc), 1, 8) := by kernel_rfl
theorem s159 : (Try.prog.info? 159).map (·.size) = some 1 := by kernel_rfl
theorem o159 : one Try.prog 159 = true := by kernel_rfl
theorem z159 : (Try.prog.info? 159).bind (·.zero) = some (.nilFunc) := by kernel_rfl
theorem i159 : (Try.prog.info? 159).map (fun i => (i.zero, i.size, i.bytes)) = some (some (.nilFunc), 1, 8) := by kernel_rfl
theorem s160 : (Try.prog.info? 160).map (·.size) = some 4 := by kernel_rfl
theorem a160 : agg Try.prog 160 = true := by kernel_rfl
theorem z160 : (Try.prog.info? 160).bind (·.zero) = some (.agg #[.pointer none, .pointer none, .pointer none, .string ⟨#[]⟩]) := by kernel_rfl
theorem i160 : (Try.prog.info? 160).map (fun i => (i.zero, i.size, i.bytes)) = some (some (.agg #[.pointer none, .pointer none, .pointer none, .string ⟨#[]⟩]), 4, 40) := by kernel_rfl
theorem p160 : placesOf Try.prog 160 = some [(0, 1), (1, 1), (2, 1), (3, 1)] := by kernel_rfl
theorem s161 : (Try.prog.info? 161).map (·.size) = some 4 := by kernel_rfl
theorem a161 : agg Try.prog 161 = true := by kernel_rfl
theorem z161 : (Try.prog.info? 161).bind (·.zero) = some (.agg #[.pointer none, .pointer none, .pointer none, .string ⟨#[]⟩]) := by kernel_rfl
theorem i161 : (Try.prog.info? 161).map (fun i => (i.zero, i.size, i.bytes)) = some (some (.agg #[.pointer none, .pointer none, .pointer none, .string ⟨#[]⟩]), 4, 40) := by kernel_rfl
theorem p161 : placesOf Try.prog 161 = some [(0, 1), (1, 1), (2, 1), (3, 1)] := by kernel_rfl
theorem s162 : (Try.prog.info? 162).map (·.size) = some 0 := by kernel_rfl
theorem a162 : agg Try.prog 162 = true := by kernel_rfl
theorem s163 : (Try.prog.info? 163).map (·.size) = some 0 := by kernel_rfl
theorem a163 : agg Try.prog 163 = true := by kernel_rfl
theorem p163 : placesOf Try.prog 163 = some [(0, 0)] := by kernel_rfl
theorem s164 : (Try.prog.info? 164).map (·.size) = some 0 := by kernel_rfl
theorem a164 : agg Try.prog 164 = true := by kernel_rfl
theorem p164 : placesOf Try.prog 164 = some [(0, 0)] := by kernel_rfl
theorem s165 : (Try.prog.info? 165).map (·.size) = some 1 := by kernel_rfl
theorem o165 : one Try.prog 165 = true := by kernel_rfl
theorem z165 : (Try.prog.info? 165).bind (·.zero) = some (.int .u32 0) := by kernel_rfl
theorem i165 : (Try.prog.info? 165).map (fun i => (i.zero, i.size, i.bytes)) = some (some (.int .u32 0), 1, 4) := by kernel_rfl
theorem s166 : (Try.prog.info? 166).map (·.size) = some 1 := by kernel_rfl
theorem o166 : one Try.prog 166 = true := by kernel_rfl
theorem z166 : (Try.prog.info? 166).bind (·.zero) = some (.int .u8 0) := by kernel_rfl
theorem i166 : (Try.prog.info? 166).map (fun i => (i.zero, i.size, i.bytes)) = some (some (.int .u8 0), 1, 1) := by kernel_rfl
theorem s167 : (Try.prog.info? 167).map (·.size) = some 1 := by kernel_rfl
theorem o167 : one Try.prog 167 = true := by kernel_rfl
theorem z167 : (Try.prog.info? 167).bind (·.zero) = some (.int .u8 0) := by kernel_rfl
theorem i167 : (Try.prog.info? 167).map (fun i => (i.zero, i.size, i.bytes)) = some (some (.int .u8 0), 1, 1) := by kernel_rfl
theorem s168 : (Try.prog.info? 168).map (·.size) = some 1 := by kernel_rfl
theorem o168 : one Try.prog 168 = true := by kernel_rfl
theorem z168 : (Try.prog.info? 168).bind (·.zero) = some (.nilFunc) := by kernel_rfl
theorem i168 : (Try.prog.info? 168).map (fun i => (i.zero, i.size, i.bytes)) = some (some (.nilFunc), 1, 8) := by kernel_rfl
theorem s169 : (Try.prog.info? 169).map (·.size) = some 1 := by kernel_rfl
theorem o169 : one Try.prog 169 = true := by kernel_rfl
theorem z169 : (Try.prog.info? 169).bind (·.zero) = some (.int .i32 0) := by kernel_rfl
theorem i169 : (Try.prog.info? 169).map (fun i => (i.zero, i.size, i.bytes)) = some (some (.int .i32 0), 1, 4) := by kernel_rfl
theorem s170 : (Try.prog.info? 170).map (·.size) = some 1 := by kernel_rfl
theorem o170 : one Try.prog 170 = true := by kernel_rfl
theorem z170 : (Try.prog.info? 170).bind (·.zero) = some (.int .i32 0) := by kernel_rfl
theorem i170 : (Try.prog.info? 170).map (fun i => (i.zero, i.size, i.bytes)) = some (some (.int .i32 0), 1, 4) := by kernel_rfl
theorem s171 : (Try.prog.info? 171).map (·.size) = some 11 := by kernel_rfl
theorem a171 : agg Try.prog 171 = true := by kernel_rfl
theorem z171 : (Try.prog.info? 171).bind (·.zero) = some (.agg #[.int .u64 0, .int .u64 0, .int .u32 0, .int .u8 0, .int .u8 0, .int .u8 0, .int .u8 0, .nilFunc, .pointer none, .int .i32 0, .int .i32 0]) := by kernel_rfl
theorem i171 : (Try.prog.info? 171).map (fun i => (i.zero, i.size, i.bytes)) = some (some (.agg #[.int .u64 0, .int .u64 0, .int .u32 0, .int .u8 0, .int .u8 0, .int .u8 0, .int .u8 0, .nilFunc, .pointer none, .int .i32 0, .int .i32 0]), 11, 48) := by kernel_rfl
theorem p171 : placesOf Try.prog 171 = some [(0, 1), (1, 1), (2, 1), (3, 1), (4, 1), (5, 1), (6, 1), (7, 1), (8, 1), (9, 1), (10, 1)] := by kernel_rfl
theorem s172 : (Try.prog.info? 172).map (·.size) = some 11 := by kernel_rfl
theorem a172 : agg Try.prog 172 = true := by kernel_rfl
theorem z172 : (Try.prog.info? 172).bind (·.zero) = some (.agg #[.int .u64 0, .int .u64 0, .int .u32 0, .int .u8 0, .int .u8 0, .int .u8 0, .int .u8 0, .nilFunc, .pointer none, .int .i32 0, .int .i32 0]) := by kernel_rfl
theorem i172 : (Try.prog.info? 172).map (fun i => (i.zero, i.size, i.bytes)) = some (some (.agg #[.int .u64 0, .int .u64 0, .int .u32 0, .int .u8 0, .int .u8 0, .int .u8 0, .int .u8 0, .nilFunc, .pointer none, .int .i32 0, .int .i32 0]), 11, 48) := by kernel_rfl
theorem p172 : placesOf Try.prog 172 = some [(0, 1), (1, 1), (2, 1), (3, 1), (4, 1), (5, 1), (6, 1), (7, 1), (8, 1), (9, 1), (10, 1)] := by kernel_rfl
theorem s173 : (Try.prog.info? 173).map (·.size) = some 1 := by kernel_rfl
theorem o173 : one Try.prog 173 = true := by kernel_rfl
theorem z173 : (Try.prog.info? 173).bind (·.zero) = some (.nilFunc) := by kernel_rfl
theorem i173 : (Try.prog.info? 173).map (fun i => (i.zero, i.size, i.bytes)) = some (some (.nilFunc), 1, 8) := by kernel_rfl
theorem hmixed : Try.prog.follows .mixedOrders = true := by kernel_rfl
theorem e3 : enters Try.prog 3 = true := by kernel_rfl
theorem e4 : enters Try.prog 4 = true := by kernel_rfl
theorem e5 : enters Try.prog 5 = true := by kernel_rfl
theorem e6 : enters Try.prog 6 = true := by kernel_rfl
theorem e7 : enters Try.prog 7 = true := by kernel_rfl
theorem e8 : enters Try.prog 8 = true := by kernel_rfl
theorem e9 : enters Try.prog 9 = true := by kernel_rfl
theorem e10 : enters Try.prog 10 = true := by kernel_rfl
theorem e11 : enters Try.prog 11 = true := by kernel_rfl
theorem e12 : enters Try.prog 12 = true := by kernel_rfl
theorem e13 : enters Try.prog 13 = true := by kernel_rfl
theorem e14 : enters Try.prog 14 = true := by kernel_rfl
theorem e15 : enters Try.prog 15 = true := by kernel_rfl
theorem e16 : enters Try.prog 16 = true := by kernel_rfl
theorem e17 : enters Try.prog 17 = true := by kernel_rfl
theorem e18 : enters Try.prog 18 = true := by kernel_rfl
theorem e19 : enters Try.prog 19 = true := by kernel_rfl
theorem e20 : enters Try.prog 20 = true := by kernel_rfl
theorem e21 : enters Try.prog 21 = true := by kernel_rfl
theorem e22 : enters Try.prog 22 = true := by kernel_rfl
theorem e23 : enters Try.prog 23 = true := by kernel_rfl
theorem e24 : enters Try.prog 24 = true := by kernel_rfl
theorem e25 : enters Try.prog 25 = true := by kernel_rfl
theorem e26 : enters Try.prog 26 = true := by kernel_rfl
theorem e27 : enters Try.prog 27 = true := by kernel_rfl
theorem e28 : enters Try.prog 28 = true := by kernel_rfl
theorem e29 : enters Try.prog 29 = true := by kernel_rfl
theorem e30 : enters Try.prog 30 = true := by kernel_rfl
theorem e31 : enters Try.prog 31 = true := by kernel_rfl
theorem e32 : enters Try.prog 32 = true := by kernel_rfl
theorem e33 : enters Try.prog 33 = true := by kernel_rfl
theorem e34 : enters Try.prog 34 = true := by kernel_rfl
theorem e35 : enters Try.prog 35 = true := by kernel_rfl
theorem e36 : enters Try.prog 36 = true := by kernel_rfl
theorem e37 : enters Try.prog 37 = true := by kernel_rfl
theorem e38 : enters Try.prog 38 = true := by kernel_rfl
theorem e39 : enters Try.prog 39 = true := by kernel_rfl
theorem e40 : enters Try.prog 40 = true := by kernel_rfl
theorem e41 : enters Try.prog 41 = true := by kernel_rfl
theorem e42 : enters Try.prog 42 = true := by kernel_rfl
theorem e43 : enters Try.prog 43 = true := by kernel_rfl
theorem e44 : enters Try.prog 44 = true := by kernel_rfl
theorem e45 : enters Try.prog 45 = true := by kernel_rfl
theorem e46 : enters Try.prog 46 = true := by kernel_rfl
theorem e47 : enters Try.prog 47 = true := by kernel_rfl
theorem e48 : enters Try.prog 48 = true := by kernel_rfl
theorem e49 : enters Try.prog 49 = true := by kernel_rfl
theorem e50 : enters Try.prog 50 = true := by kernel_rfl
theorem e51 : enters Try.prog 51 = true := by kernel_rfl
theorem e52 : enters Try.prog 52 = true := by kernel_rfl
theorem e53 : enters Try.prog 53 = true := by kernel_rfl
theorem e54 : enters Try.prog 54 = true := by kernel_rfl
theorem e55 : enters Try.prog 55 = true := by kernel_rfl
theorem e56 : enters Try.prog 56 = true := by kernel_rfl
theorem e57 : enters Try.prog 57 = true := by kernel_rfl
theorem e58 : enters Try.prog 58 = true := by kernel_rfl
theorem e59 : enters Try.prog 59 = true := by kernel_rfl
theorem e60 : enters Try.prog 60 = true := by kernel_rfl
theorem e61 : enters Try.prog 61 = true := by kernel_rfl
theorem e62 : enters Try.prog 62 = true := by kernel_rfl
theorem e64 : enters Try.prog 64 = true := by kernel_rfl
theorem e65 : enters Try.prog 65 = true := by kernel_rfl
theorem e66 : enters Try.prog 66 = true := by kernel_rfl
theorem e68 : enters Try.prog 68 = true := by kernel_rfl
theorem e69 : enters Try.prog 69 = true := by kernel_rfl
theorem e70 : enters Try.prog 70 = true := by kernel_rfl
theorem e72 : enters Try.prog 72 = true := by kernel_rfl
theorem e73 : enters Try.prog 73 = true := by kernel_rfl
theorem e74 : enters Try.prog 74 = true := by kernel_rfl
theorem e75 : enters Try.prog 75 = true := by kernel_rfl
theorem e76 : enters Try.prog 76 = true := by kernel_rfl
theorem e77 : enters Try.prog 77 = true := by kernel_rfl
theorem e78 : enters Try.prog 78 = true := by kernel_rfl
theorem e79 : enters Try.prog 79 = true := by kernel_rfl
theorem e80 : enters Try.prog 80 = true := by kernel_rfl
theorem e81 : enters Try.prog 81 = true := by kernel_rfl
theorem e82 : enters Try.prog 82 = true := by kernel_rfl
theorem e83 : enters Try.prog 83 = true := by kernel_rfl
theorem e84 : enters Try.prog 84 = true := by kernel_rfl
theorem e85 : enters Try.prog 85 = true := by kernel_rfl
theorem e86 : enters Try.prog 86 = true := by kernel_rfl
theorem e87 : enters Try.prog 87 = true := by kernel_rfl
theorem e88 : enters Try.prog 88 = true := by kernel_rfl
theorem e89 : enters Try.prog 89 = true := by kernel_rfl
theorem e91 : enters Try.prog 91 = true := by kernel_rfl
theorem e92 : enters Try.prog 92 = true := by kernel_rfl
theorem e93 : enters Try.prog 93 = true := by kernel_rfl
theorem e94 : enters Try.prog 94 = true := by kernel_rfl
theorem e95 : enters Try.prog 95 = true := by kernel_rfl
theorem e96 : enters Try.prog 96 = true := by kernel_rfl
end Go.Proofs.Ytlibfaghiogekaa
