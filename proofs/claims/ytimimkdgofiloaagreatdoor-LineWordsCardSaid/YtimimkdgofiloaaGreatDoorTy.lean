/- Closed facts on types and functions. Printed by gen.py. -/
import Derived.Test.YtimimkdgofiloaaGreatDoorRows
import Derived.Test.YtimimkdgofiloaaGreatDoorQi
namespace Go.Proofs.YtimimkdgofiloaaGreatDoor
open Go Go.Q
theorem s0 : (Tryz.prog.info? 0).map (·.size) = some 1 := by kernel_rfl
theorem o0 : one Tryz.prog 0 = true := by kernel_rfl
theorem s1 : (Tryz.prog.info? 1).map (·.size) = some 1 := by kernel_rfl
theorem o1 : one Tryz.prog 1 = true := by kernel_rfl
theorem z1 : (Tryz.prog.info? 1).bind (·.zero) = some (.nilFunc) := by kernel_rfl
theorem i1 : (Tryz.prog.info? 1).map (fun i => (i.zero, i.size, i.bytes)) = some (some (.nilFunc), 1, 8) := by kernel_rfl
theorem s2 : (Tryz.prog.info? 2).map (·.size) = some 1 := by kernel_rfl
theorem o2 : one Tryz.prog 2 = true := by kernel_rfl
theorem z2 : (Tryz.prog.info? 2).bind (·.zero) = some (.int .i64 0) := by kernel_rfl
theorem i2 : (Tryz.prog.info? 2).map (fun i => (i.zero, i.size, i.bytes)) = some (some (.int .i64 0), 1, 8) := by kernel_rfl
theorem s3 : (Tryz.prog.info? 3).map (·.size) = some 1 := by kernel_rfl
theorem o3 : one Tryz.prog 3 = true := by kernel_rfl
theorem z3 : (Tryz.prog.info? 3).bind (·.zero) = some (.int .i64 0) := by kernel_rfl
theorem i3 : (Tryz.prog.info? 3).map (fun i => (i.zero, i.size, i.bytes)) = some (some (.int .i64 0), 1, 8) := by kernel_rfl
theorem s4 : (Tryz.prog.info? 4).map (·.size) = some 1 := by kernel_rfl
theorem o4 : one Tryz.prog 4 = true := by kernel_rfl
theorem z4 : (Tryz.prog.info? 4).bind (·.zero) = some (.bool false) := by kernel_rfl
theorem i4 : (Tryz.prog.info? 4).map (fun i => (i.zero, i.size, i.bytes)) = some (some (.bool false), 1, 1) := by kernel_rfl
theorem s5 : (Tryz.prog.info? 5).map (·.size) = some 1 := by kernel_rfl
theorem o5 : one Tryz.prog 5 = true := by kernel_rfl
theorem z5 : (Tryz.prog.info? 5).bind (·.zero) = some (.int .u8 0) := by kernel_rfl
theorem i5 : (Tryz.prog.info? 5).map (fun i => (i.zero, i.size, i.bytes)) = some (some (.int .u8 0), 1, 1) := by kernel_rfl
theorem s6 : (Tryz.prog.info? 6).map (·.size) = some 1 := by kernel_rfl
theorem o6 : one Tryz.prog 6 = true := by kernel_rfl
theorem z6 : (Tryz.prog.info? 6).bind (·.zero) = some (.int .u8 0) := by kernel_rfl
theorem i6 : (Tryz.prog.info? 6).map (fun i => (i.zero, i.size, i.bytes)) = some (some (.int .u8 0), 1, 1) := by kernel_rfl
theorem s7 : (Tryz.prog.info? 7).map (·.size) = some 4 := by kernel_rfl
theorem a7 : agg Tryz.prog 7 = true := by kernel_rfl
theorem z7 : (Tryz.prog.info? 7).bind (·.zero) = some (.agg #[.int .i64 0, .int .i64 0, .bool false, .int .u8 0]) := by kernel_rfl
theorem i7 : (Tryz.prog.info? 7).map (fun i => (i.zero, i.size, i.bytes)) = some (some (.agg #[.int .i64 0, .int .i64 0, .bool false, .int .u8 0]), 4, 24) := by kernel_rfl
theorem p7 : placesOf Tryz.prog 7 = some [(0, 1), (1, 1), (2, 1), (3, 1)] := by kernel_rfl
theorem s8 : (Tryz.prog.info? 8).map (·.size) = some 4 := by kernel_rfl
theorem a8 : agg Tryz.prog 8 = true := by kernel_rfl
theorem z8 : (Tryz.prog.info? 8).bind (·.zero) = some (.agg #[.int .i64 0, .int .i64 0, .bool false, .int .u8 0]) := by kernel_rfl
theorem i8 : (Tryz.prog.info? 8).map (fun i => (i.zero, i.size, i.bytes)) = some (some (.agg #[.int .i64 0, .int .i64 0, .bool false, .int .u8 0]), 4, 24) := by kernel_rfl
theorem p8 : placesOf Tryz.prog 8 = some [(0, 1), (1, 1), (2, 1), (3, 1)] := by kernel_rfl
theorem s9 : (Tryz.prog.info? 9).map (·.size) = some 1 := by kernel_rfl
theorem o9 : one Tryz.prog 9 = true := by kernel_rfl
theorem z9 : (Tryz.prog.info? 9).bind (·.zero) = some (.string ⟨#[]⟩) := by kernel_rfl
theorem i9 : (Tryz.prog.info? 9).map (fun i => (i.zero, i.size, i.bytes)) = some (some (.string ⟨#[]⟩), 1, 16) := by kernel_rfl
theorem s10 : (Tryz.prog.info? 10).map (·.size) = some 1 := by kernel_rfl
theorem o10 : one Tryz.prog 10 = true := by kernel_rfl
theorem z10 : (Tryz.prog.info? 10).bind (·.zero) = some (.string ⟨#[]⟩) := by kernel_rfl
theorem i10 : (Tryz.prog.info? 10).map (fun i => (i.zero, i.size, i.bytes)) = some (some (.string ⟨#[]⟩), 1, 16) := by kernel_rfl
theorem s11 : (Tryz.prog.info? 11).map (·.size) = some 1 := by kernel_rfl
theorem o11 : one Tryz.prog 11 = true := by kernel_rfl
theorem z11 : (Tryz.prog.info? 11).bind (·.zero) = some (.string ⟨#[]⟩) := by kernel_rfl
theorem i11 : (Tryz.prog.info? 11).map (fun i => (i.zero, i.size, i.bytes)) = some (some (.string ⟨#[]⟩), 1, 16) := by kernel_rfl
theorem s12 : (Tryz.prog.info? 12).map (·.size) = some 1 := by kernel_rfl
theorem o12 : one Tryz.prog 12 = true := by kernel_rfl
theorem z12 : (Tryz.prog.info? 12).bind (·.zero) = some (.int .u64 0) := by kernel_rfl
theorem i12 : (Tryz.prog.info? 12).map (fun i => (i.zero, i.size, i.bytes)) = some (some (.int .u64 0), 1, 8) := by kernel_rfl
theorem s13 : (Tryz.prog.info? 13).map (·.size) = some 2 := by kernel_rfl
theorem a13 : agg Tryz.prog 13 = true := by kernel_rfl
theorem z13 : (Tryz.prog.info? 13).bind (·.zero) = some (.agg #[.string ⟨#[]⟩, .int .u64 0]) := by kernel_rfl
theorem i13 : (Tryz.prog.info? 13).map (fun i => (i.zero, i.size, i.bytes)) = some (some (.agg #[.string ⟨#[]⟩, .int .u64 0]), 2, 24) := by kernel_rfl
theorem p13 : placesOf Tryz.prog 13 = some [(0, 1), (1, 1)] := by kernel_rfl
theorem s14 : (Tryz.prog.info? 14).map (·.size) = some 2 := by kernel_rfl
theorem a14 : agg Tryz.prog 14 = true := by kernel_rfl
theorem z14 : (Tryz.prog.info? 14).bind (·.zero) = some (.agg #[.string ⟨#[]⟩, .int .u64 0]) := by kernel_rfl
theorem i14 : (Tryz.prog.info? 14).map (fun i => (i.zero, i.size, i.bytes)) = some (some (.agg #[.string ⟨#[]⟩, .int .u64 0]), 2, 24) := by kernel_rfl
theorem p14 : placesOf Tryz.prog 14 = some [(0, 1), (1, 1)] := by kernel_rfl
theorem s15 : (Tryz.prog.info? 15).map (·.size) = some 1 := by kernel_rfl
theorem o15 : one Tryz.prog 15 = true := by kernel_rfl
theorem z15 : (Tryz.prog.info? 15).bind (·.zero) = some (.pointer none) := by kernel_rfl
theorem i15 : (Tryz.prog.info? 15).map (fun i => (i.zero, i.size, i.bytes)) = some (some (.pointer none), 1, 8) := by kernel_rfl
theorem s16 : (Tryz.prog.info? 16).map (·.size) = some 1 := by kernel_rfl
theorem o16 : one Tryz.prog 16 = true := by kernel_rfl
theorem z16 : (Tryz.prog.info? 16).bind (·.zero) = some (.pointer none) := by kernel_rfl
theorem i16 : (Tryz.prog.info? 16).map (fun i => (i.zero, i.size, i.bytes)) = some (some (.pointer none), 1, 8) := by kernel_rfl
theorem s17 : (Tryz.prog.info? 17).map (·.size) = some 1 := by kernel_rfl
theorem o17 : one Tryz.prog 17 = true := by kernel_rfl
theorem z17 : (Tryz.prog.info? 17).bind (·.zero) = some (.pointer none) := by kernel_rfl
theorem i17 : (Tryz.prog.info? 17).map (fun i => (i.zero, i.size, i.bytes)) = some (some (.pointer none), 1, 8) := by kernel_rfl
theorem s18 : (Tryz.prog.info? 18).map (·.size) = some 1 := by kernel_rfl
theorem a18 : agg Tryz.prog 18 = true := by kernel_rfl
theorem z18 : (Tryz.prog.info? 18).bind (·.zero) = some (.agg #[.pointer none]) := by kernel_rfl
theorem i18 : (Tryz.prog.info? 18).map (fun i => (i.zero, i.size, i.bytes)) = some (some (.agg #[.pointer none]), 1, 8) := by kernel_rfl
theorem p18 : placesOf Tryz.prog 18 = some [(0, 1)] := by kernel_rfl
theorem s19 : (Tryz.prog.info? 19).map (·.size) = some 1 := by kernel_rfl
theorem a19 : agg Tryz.prog 19 = true := by kernel_rfl
theorem z19 : (Tryz.prog.info? 19).bind (·.zero) = some (.agg #[.pointer none]) := by kernel_rfl
theorem i19 : (Tryz.prog.info? 19).map (fun i => (i.zero, i.size, i.bytes)) = some (some (.agg #[.pointer none]), 1, 8) := by kernel_rfl
theorem p19 : placesOf Tryz.prog 19 = some [(0, 1)] := by kernel_rfl
theorem s20 : (Tryz.prog.info? 20).map (·.size) = some 1 := by kernel_rfl
theorem o20 : one Tryz.prog 20 = true := by kernel_rfl
theorem z20 : (Tryz.prog.info? 20).bind (·.zero) = some (.nilIface) := by kernel_rfl
theorem i20 : (Tryz.prog.info? 20).map (fun i => (i.zero, i.size, i.bytes)) = some (some (.nilIface), 1, 16) := by kernel_rfl
theorem s21 : (Tryz.prog.info? 21).map (·.size) = some 1 := by kernel_rfl
theorem o21 : one Tryz.prog 21 = true := by kernel_rfl
theorem z21 : (Tryz.prog.info? 21).bind (·.zero) = some (.int .i32 0) := by kernel_rfl
theorem i21 : (Tryz.prog.info? 21).map (fun i => (i.zero, i.size, i.bytes)) = some (some (.int .i32 0), 1, 4) := by kernel_rfl
theorem s22 : (Tryz.prog.info? 22).map (·.size) = some 1 := by kernel_rfl
theorem o22 : one Tryz.prog 22 = true := by kernel_rfl
theorem z22 : (Tryz.prog.info? 22).bind (·.zero) = some (.slice none 0 0) := by kernel_rfl
theorem i22 : (Tryz.prog.info? 22).map (fun i => (i.zero, i.size, i.bytes)) = some (some (.slice none 0 0), 1, 24) := by kernel_rfl
theorem s23 : (Tryz.prog.info? 23).map (·.size) = some 1 := by kernel_rfl
theorem o23 : one Tryz.prog 23 = true := by kernel_rfl
theorem z23 : (Tryz.prog.info? 23).bind (·.zero) = some (.nilFunc) := by kernel_rfl
theorem i23 : (Tryz.prog.info? 23).map (fun i => (i.zero, i.size, i.bytes)) = some (some (.nilFunc), 1, 8) := by kernel_rfl
theorem s24 : (Tryz.prog.info? 24).map (·.size) = some 1 := by kernel_rfl
theorem o24 : one Tryz.prog 24 = true := by kernel_rfl
theorem z24 : (Tryz.prog.info? 24).bind (·.zero) = some (.nilFunc) := by kernel_rfl
theorem i24 : (Tryz.prog.info? 24).map (fun i => (i.zero, i.size, i.bytes)) = some (some (.nilFunc), 1, 8) := by kernel_rfl
theorem s25 : (Tryz.prog.info? 25).map (·.size) = some 1 := by kernel_rfl
theorem o25 : one Tryz.prog 25 = true := by kernel_rfl
theorem s26 : (Tryz.prog.info? 26).map (·.size) = some 1 := by kernel_rfl
theorem o26 : one Tryz.prog 26 = true := by kernel_rfl
theorem z26 : (Tryz.prog.info? 26).bind (·.zero) = some (.nilFunc) := by kernel_rfl
theorem i26 : (Tryz.prog.info? 26).map (fun i => (i.zero, i.size, i.bytes)) = some (some (.nilFunc), 1, 8) := by kernel_rfl
theorem s27 : (Tryz.prog.info? 27).map (·.size) = some 1 := by kernel_rfl
theorem o27 : one Tryz.prog 27 = true := by kernel_rfl
theorem z27 : (Tryz.prog.info? 27).bind (·.zero) = some (.slice none 0 0) := by kernel_rfl
theorem i27 : (Tryz.prog.info? 27).map (fun i => (i.zero, i.size, i.bytes)) = some (some (.slice none 0 0), 1, 24) := by kernel_rfl
theorem s28 : (Tryz.prog.info? 28).map (·.size) = some 1 := by kernel_rfl
theorem o28 : one Tryz.prog 28 = true := by kernel_rfl
theorem z28 : (Tryz.prog.info? 28).bind (·.zero) = some (.slice none 0 0) := by kernel_rfl
theorem i28 : (Tryz.prog.info? 28).map (fun i => (i.zero, i.size, i.bytes)) = some (some (.slice none 0 0), 1, 24) := by kernel_rfl
theorem s29 : (Tryz.prog.info? 29).map (·.size) = some 1 := by kernel_rfl
theorem o29 : one Tryz.prog 29 = true := by kernel_rfl
theorem z29 : (Tryz.prog.info? 29).bind (·.zero) = some (.slice none 0 0) := by kernel_rfl
theorem i29 : (Tryz.prog.info? 29).map (fun i => (i.zero, i.size, i.bytes)) = some (some (.slice none 0 0), 1, 24) := by kernel_rfl
theorem s30 : (Tryz.prog.info? 30).map (·.size) = some 1 := by kernel_rfl
theorem o30 : one Tryz.prog 30 = true := by kernel_rfl
theorem z30 : (Tryz.prog.info? 30).bind (·.zero) = some (.slice none 0 0) := by kernel_rfl
theorem i30 : (Tryz.prog.info? 30).map (fun i => (i.zero, i.size, i.bytes)) = some (some (.slice none 0 0), 1, 24) := by kernel_rfl
theorem s31 : (Tryz.prog.info? 31).map (·.size) = some 1 := by kernel_rfl
theorem o31 : one Tryz.prog 31 = true := by kernel_rfl
theorem z31 : (Tryz.prog.info? 31).bind (·.zero) = some (.slice none 0 0) := by kernel_rfl
theorem i31 : (Tryz.prog.info? 31).map (fun i => (i.zero, i.size, i.bytes)) = some (some (.slice none 0 0), 1, 24) := by kernel_rfl
theorem s32 : (Tryz.prog.info? 32).map (·.size) = some 6 := by kernel_rfl
theorem a32 : agg Tryz.prog 32 = true := by kernel_rfl
theorem z32 : (Tryz.prog.info? 32).bind (·.zero) = some (.agg #[.int .i64 0, .int .i64 0, .int .i64 0, .int .i64 0, .bool false, .bool false]) := by kernel_rfl
theorem i32 : (Tryz.prog.info? 32).map (fun i => (i.zero, i.size, i.bytes)) = some (some (.agg #[.int .i64 0, .int .i64 0, .int .i64 0, .int .i64 0, .bool false, .bool false]), 6, 40) := by kernel_rfl
theorem p32 : placesOf Tryz.prog 32 = some [(0, 1), (1, 1), (2, 1), (3, 1), (4, 1), (5, 1)] := by kernel_rfl
theorem s33 : (Tryz.prog.info? 33).map (·.size) = some 6 := by kernel_rfl
theorem a33 : agg Tryz.prog 33 = true := by kernel_rfl
theorem z33 : (Tryz.prog.info? 33).bind (·.zero) = some (.agg #[.int .i64 0, .int .i64 0, .int .i64 0, .int .i64 0, .bool false, .bool false]) := by kernel_rfl
theorem i33 : (Tryz.prog.info? 33).map (fun i => (i.zero, i.size, i.bytes)) = some (some (.agg #[.int .i64 0, .int .i64 0, .int .i64 0, .int .i64 0, .bool false, .bool false]), 6, 40) := by kernel_rfl
theorem p33 : placesOf Tryz.prog 33 = some [(0, 1), (1, 1), (2, 1), (3, 1), (4, 1), (5, 1)] := by kernel_rfl
theorem s34 : (Tryz.prog.info? 34).map (·.size) = some 1 := by kernel_rfl
theorem o34 : one Tryz.prog 34 = true := by kernel_rfl
theorem z34 : (Tryz.prog.info? 34).bind (·.zero) = some (.slice none 0 0) := by kernel_rfl
theorem i34 : (Tryz.prog.info? 34).map (fun i => (i.zero, i.size, i.bytes)) = some (some (.slice none 0 0), 1, 24) := by kernel_rfl
theorem s35 : (Tryz.prog.info? 35).map (·.size) = some 14 := by kernel_rfl
theorem a35 : agg Tryz.prog 35 = true := by kernel_rfl
theorem z35 : (Tryz.prog.info? 35).bind (·.zero) = some (.agg #[.int .i64 0, .string ⟨#[]⟩, .string ⟨#[]⟩, .string ⟨#[]⟩, .slice none 0 0, .slice none 0 0, .slice none 0 0, .int .i64 0, .int .i64 0, .int .i64 0, .int .i64 0, .bool false, .bool false, .slice none 0 0]) := by kernel_rfl
theorem i35 : (Tryz.prog.info? 35).map (fun i => (i.zero, i.size, i.bytes)) = some (some (.agg #[.int .i64 0, .string ⟨#[]⟩, .string ⟨#[]⟩, .string ⟨#[]⟩, .slice none 0 0, .slice none 0 0, .slice none 0 0, .int .i64 0, .int .i64 0, .int .i64 0, .int .i64 0, .bool false, .bool false, .slice none 0 0]), 14, 192) := by kernel_rfl
theorem p35 : placesOf Tryz.prog 35 = some [(0, 1), (1, 1), (2, 1), (3, 1), (4, 1), (5, 1), (6, 1), (7, 6), (13, 1)] := by kernel_rfl
theorem s36 : (Tryz.prog.info? 36).map (·.size) = some 14 := by kernel_rfl
theorem a36 : agg Tryz.prog 36 = true := by kernel_rfl
theorem z36 : (Tryz.prog.info? 36).bind (·.zero) = some (.agg #[.int .i64 0, .string ⟨#[]⟩, .string ⟨#[]⟩, .string ⟨#[]⟩, .slice none 0 0, .slice none 0 0, .slice none 0 0, .int .i64 0, .int .i64 0, .int .i64 0, .int .i64 0, .bool false, .bool false, .slice none 0 0]) := by kernel_rfl
theorem i36 : (Tryz.prog.info? 36).map (fun i => (i.zero, i.size, i.bytes)) = some (some (.agg #[.int .i64 0, .string ⟨#[]⟩, .string ⟨#[]⟩, .string ⟨#[]⟩, .slice none 0 0, .slice none 0 0, .slice none 0 0, .int .i64 0, .int .i64 0, .int .i64 0, .int .i64 0, .bool false, .bool false, .slice none 0 0]), 14, 192) := by kernel_rfl
theorem p36 : placesOf Tryz.prog 36 = some [(0, 1), (1, 1), (2, 1), (3, 1), (4, 1), (5, 1), (6, 1), (7, 6), (13, 1)] := by kernel_rfl
theorem s37 : (Tryz.prog.info? 37).map (·.size) = some 1 := by kernel_rfl
theorem o37 : one Tryz.prog 37 = true := by kernel_rfl
theorem z37 : (Tryz.prog.info? 37).bind (·.zero) = some (.slice none 0 0) := by kernel_rfl
theorem i37 : (Tryz.prog.info? 37).map (fun i => (i.zero, i.size, i.bytes)) = some (some (.slice none 0 0), 1, 24) := by kernel_rfl
theorem s38 : (Tryz.prog.info? 38).map (·.size) = some 1 := by kernel_rfl
theorem o38 : one Tryz.prog 38 = true := by kernel_rfl
theorem z38 : (Tryz.prog.info? 38).bind (·.zero) = some (.slice none 0 0) := by kernel_rfl
theorem i38 : (Tryz.prog.info? 38).map (fun i => (i.zero, i.size, i.bytes)) = some (some (.slice none 0 0), 1, 24) := by kernel_rfl
theorem s39 : (Tryz.prog.info? 39).map (·.size) = some 17 := by kernel_rfl
theorem a39 : agg Tryz.prog 39 = true := by kernel_rfl
theorem z39 : (Tryz.prog.info? 39).bind (·.zero) = some (.agg #[.string ⟨#[]⟩, .slice none 0 0, .int .i64 0, .string ⟨#[]⟩, .string ⟨#[]⟩, .string ⟨#[]⟩, .slice none 0 0, .slice none 0 0, .slice none 0 0, .int .i64 0, .int .i64 0, .int .i64 0, .int .i64 0, .bool false, .bool false, .slice none 0 0, .slice none 0 0]) := by kernel_rfl
theorem i39 : (Tryz.prog.info? 39).map (fun i => (i.zero, i.size, i.bytes)) = some (some (.agg #[.string ⟨#[]⟩, .slice none 0 0, .int .i64 0, .string ⟨#[]⟩, .string ⟨#[]⟩, .string ⟨#[]⟩, .slice none 0 0, .slice none 0 0, .slice none 0 0, .int .i64 0, .int .i64 0, .int .i64 0, .int .i64 0, .bool false, .bool false, .slice none 0 0, .slice none 0 0]), 17, 256) := by kernel_rfl
theorem p39 : placesOf Tryz.prog 39 = some [(0, 1), (1, 1), (2, 14), (16, 1)] := by kernel_rfl
theorem s40 : (Tryz.prog.info? 40).map (·.size) = some 17 := by kernel_rfl
theorem a40 : agg Tryz.prog 40 = true := by kernel_rfl
theorem z40 : (Tryz.prog.info? 40).bind (·.zero) = some (.agg #[.string ⟨#[]⟩, .slice none 0 0, .int .i64 0, .string ⟨#[]⟩, .string ⟨#[]⟩, .string ⟨#[]⟩, .slice none 0 0, .slice none 0 0, .slice none 0 0, .int .i64 0, .int .i64 0, .int .i64 0, .int .i64 0, .bool false, .bool false, .slice none 0 0, .slice none 0 0]) := by kernel_rfl
theorem i40 : (Tryz.prog.info? 40).map (fun i => (i.zero, i.size, i.bytes)) = some (some (.agg #[.string ⟨#[]⟩, .slice none 0 0, .int .i64 0, .string ⟨#[]⟩, .string ⟨#[]⟩, .string ⟨#[]⟩, .slice none 0 0, .slice none 0 0, .slice none 0 0, .int .i64 0, .int .i64 0, .int .i64 0, .int .i64 0, .bool false, .bool false, .slice none 0 0, .slice none 0 0]), 17, 256) := by kernel_rfl
theorem p40 : placesOf Tryz.prog 40 = some [(0, 1), (1, 1), (2, 14), (16, 1)] := by kernel_rfl
theorem s41 : (Tryz.prog.info? 41).map (·.size) = some 1 := by kernel_rfl
theorem o41 : one Tryz.prog 41 = true := by kernel_rfl
theorem z41 : (Tryz.prog.info? 41).bind (·.zero) = some (.int .i64 0) := by kernel_rfl
theorem i41 : (Tryz.prog.info? 41).map (fun i => (i.zero, i.size, i.bytes)) = some (some (.int .i64 0), 1, 8) := by kernel_rfl
theorem s42 : (Tryz.prog.info? 42).map (·.size) = some 1 := by kernel_rfl
theorem o42 : one Tryz.prog 42 = true := by kernel_rfl
theorem s43 : (Tryz.prog.info? 43).map (·.size) = some 1 := by kernel_rfl
theorem o43 : one Tryz.prog 43 = true := by kernel_rfl
theorem z43 : (Tryz.prog.info? 43).bind (·.zero) = some (.nilFunc) := by kernel_rfl
theorem i43 : (Tryz.prog.info? 43).map (fun i => (i.zero, i.size, i.bytes)) = some (some (.nilFunc), 1, 8) := by kernel_rfl
theorem s44 : (Tryz.prog.info? 44).map (·.size) = some 1 := by kernel_rfl
theorem o44 : one Tryz.prog 44 = true := by kernel_rfl
theorem z44 : (Tryz.prog.info? 44).bind (·.zero) = some (.nilFunc) := by kernel_rfl
theorem i44 : (Tryz.prog.info? 44).map (fun i => (i.zero, i.size, i.bytes)) = some (some (.nilFunc), 1, 8) := by kernel_rfl
theorem s45 : (Tryz.prog.info? 45).map (·.size) = some 1 := by kernel_rfl
theorem o45 : one Tryz.prog 45 = true := by kernel_rfl
theorem z45 : (Tryz.prog.info? 45).bind (·.zero) = some (.nilFunc) := by kernel_rfl
theorem i45 : (Tryz.prog.info? 45).map (fun i => (i.zero, i.size, i.bytes)) = some (some (.nilFunc), 1, 8) := by kernel_rfl
theorem s46 : (Tryz.prog.info? 46).map (·.size) = some 1 := by kernel_rfl
theorem o46 : one Tryz.prog 46 = true := by kernel_rfl
theorem z46 : (Tryz.prog.info? 46).bind (·.zero) = some (.nilFunc) := by kernel_rfl
theorem i46 : (Tryz.prog.info? 46).map (fun i => (i.zero, i.size, i.bytes)) = some (some (.nilFunc), 1, 8) := by kernel_rfl
theorem s47 : (Tryz.prog.info? 47).map (·.size) = some 1 := by kernel_rfl
theorem o47 : one Tryz.prog 47 = true := by kernel_rfl
theorem z47 : (Tryz.prog.info? 47).bind (·.zero) = some (.nilFunc) := by kernel_rfl
theorem i47 : (Tryz.prog.info? 47).map (fun i => (i.zero, i.size, i.bytes)) = some (some (.nilFunc), 1, 8) := by kernel_rfl
theorem s48 : (Tryz.prog.info? 48).map (·.size) = some 1 := by kernel_rfl
theorem o48 : one Tryz.prog 48 = true := by kernel_rfl
theorem z48 : (Tryz.prog.info? 48).bind (·.zero) = some (.nilFunc) := by kernel_rfl
theorem i48 : (Tryz.prog.info? 48).map (fun i => (i.zero, i.size, i.bytes)) = some (some (.nilFunc), 1, 8) := by kernel_rfl
theorem s49 : (Tryz.prog.info? 49).map (·.size) = some 1 := by kernel_rfl
theorem o49 : one Tryz.prog 49 = true := by kernel_rfl
theorem z49 : (Tryz.prog.info? 49).bind (·.zero) = some (.nilFunc) := by kernel_rfl
theorem i49 : (Tryz.prog.info? 49).map (fun i => (i.zero, i.size, i.bytes)) = some (some (.nilFunc), 1, 8) := by kernel_rfl
theorem s50 : (Tryz.prog.info? 50).map (·.size) = some 1 := by kernel_rfl
theorem o50 : one Tryz.prog 50 = true := by kernel_rfl
theorem z50 : (Tryz.prog.info? 50).bind (·.zero) = some (.nilFunc) := by kernel_rfl
theorem i50 : (Tryz.prog.info? 50).map (fun i => (i.zero, i.size, i.bytes)) = some (some (.nilFunc), 1, 8) := by kernel_rfl
theorem s51 : (Tryz.prog.info? 51).map (·.size) = some 1 := by kernel_rfl
theorem o51 : one Tryz.prog 51 = true := by kernel_rfl
theorem z51 : (Tryz.prog.info? 51).bind (·.zero) = some (.slice none 0 0) := by kernel_rfl
theorem i51 : (Tryz.prog.info? 51).map (fun i => (i.zero, i.size, i.bytes)) = some (some (.slice none 0 0), 1, 24) := by kernel_rfl
theorem s52 : (Tryz.prog.info? 52).map (·.size) = some 1 := by kernel_rfl
theorem o52 : one Tryz.prog 52 = true := by kernel_rfl
theorem s53 : (Tryz.prog.info? 53).map (·.size) = some 1 := by kernel_rfl
theorem o53 : one Tryz.prog 53 = true := by kernel_rfl
theorem z53 : (Tryz.prog.info? 53).bind (·.zero) = some (.nilFunc) := by kernel_rfl
theorem i53 : (Tryz.prog.info? 53).map (fun i => (i.zero, i.size, i.bytes)) = some (some (.nilFunc), 1, 8) := by kernel_rfl
theorem s54 : (Tryz.prog.info? 54).map (·.size) = some 1 := by kernel_rfl
theorem o54 : one Tryz.prog 54 = true := by kernel_rfl
theorem z54 : (Tryz.prog.info? 54).bind (·.zero) = some (.nilFunc) := by kernel_rfl
theorem i54 : (Tryz.prog.info? 54).map (fun i => (i.zero, i.size, i.bytes)) = some (some (.nilFunc), 1, 8) := by kernel_rfl
theorem s55 : (Tryz.prog.info? 55).map (·.size) = some 2 := by kernel_rfl
theorem a55 : agg Tryz.prog 55 = true := by kernel_rfl
theorem z55 : (Tryz.prog.info? 55).bind (·.zero) = some (.agg #[.int .i64 0, .int .i64 0]) := by kernel_rfl
theorem i55 : (Tryz.prog.info? 55).map (fun i => (i.zero, i.size, i.bytes)) = some (some (.agg #[.int .i64 0, .int .i64 0]), 2, 16) := by kernel_rfl
theorem p55 : placesOf Tryz.prog 55 = some [(0, 1), (1, 1)] := by kernel_rfl
theorem s56 : (Tryz.prog.info? 56).map (·.size) = some 2 := by kernel_rfl
theorem a56 : agg Tryz.prog 56 = true := by kernel_rfl
theorem z56 : (Tryz.prog.info? 56).bind (·.zero) = some (.agg #[.int .i64 0, .int .i64 0]) := by kernel_rfl
theorem i56 : (Tryz.prog.info? 56).map (fun i => (i.zero, i.size, i.bytes)) = some (some (.agg #[.int .i64 0, .int .i64 0]), 2, 16) := by kernel_rfl
theorem p56 : placesOf Tryz.prog 56 = some [(0, 1), (1, 1)] := by kernel_rfl
theorem s57 : (Tryz.prog.info? 57).map (·.size) = some 1 := by kernel_rfl
theorem o57 : one Tryz.prog 57 = true := by kernel_rfl
theorem s58 : (Tryz.prog.info? 58).map (·.size) = some 1 := by kernel_rfl
theorem o58 : one Tryz.prog 58 = true := by kernel_rfl
theorem z58 : (Tryz.prog.info? 58).bind (·.zero) = some (.map none) := by kernel_rfl
theorem i58 : (Tryz.prog.info? 58).map (fun i => (i.zero, i.size, i.bytes)) = some (some (.map none), 1, 8) := by kernel_rfl
theorem s59 : (Tryz.prog.info? 59).map (·.size) = some 1 := by kernel_rfl
theorem o59 : one Tryz.prog 59 = true := by kernel_rfl
theorem z59 : (Tryz.prog.info? 59).bind (·.zero) = some (.nilFunc) := by kernel_rfl
theorem i59 : (Tryz.prog.info? 59).map (fun i => (i.zero, i.size, i.bytes)) = some (some (.nilFunc), 1, 8) := by kernel_rfl
theorem s60 : (Tryz.prog.info? 60).map (·.size) = some 1 := by kernel_rfl
theorem o60 : one Tryz.prog 60 = true := by kernel_rfl
theorem z60 : (Tryz.prog.info? 60).bind (·.zero) = some (.nilFunc) := by kernel_rfl
theorem i60 : (Tryz.prog.info? 60).map (fun i => (i.zero, i.size, i.bytes)) = some (some (.nilFunc), 1, 8) := by kernel_rfl
theorem s61 : (Tryz.prog.info? 61).map (·.size) = some 1 := by kernel_rfl
theorem o61 : one Tryz.prog 61 = true := by kernel_rfl
theorem z61 : (Tryz.prog.info? 61).bind (·.zero) = some (.nilFunc) := by kernel_rfl
theorem i61 : (Tryz.prog.info? 61).map (fun i => (i.zero, i.size, i.bytes)) = some (some (.nilFunc), 1, 8) := by kernel_rfl
theorem s62 : (Tryz.prog.info? 62).map (·.size) = some 1 := by kernel_rfl
theorem o62 : one Tryz.prog 62 = true := by kernel_rfl
theorem z62 : (Tryz.prog.info? 62).bind (·.zero) = some (.nilFunc) := by kernel_rfl
theorem i62 : (Tryz.prog.info? 62).map (fun i => (i.zero, i.size, i.bytes)) = some (some (.nilFunc), 1, 8) := by kernel_rfl
theorem s63 : (Tryz.prog.info? 63).map (·.size) = some 256 := by kernel_rfl
theorem a63 : agg Tryz.prog 63 = true := by kernel_rfl
theorem z63 : (Tryz.prog.info? 63).bind (·.zero) = some (.agg #[.bool false, .bool false, .bool false, .bool false, .bool false, .bool false, .bool false, .bool false, .bool false, .bool false, .bool false, .bool false, .bool false, .bool false, .bool false, .bool false, .bool false, .bool false, .bool false, .bool false, .bool false, .bool false, .bool false, .bool false, .bool false, .bool false, .bool false, .bool false, .bool false, .bool false, .bool false, .bool false, .bool false, .bool false, .bool false, .bool false, .bool false, .bool false, .bool false, .bool false, .bool false, .bool false, .bool false, .bool false, .bool false, .bool false, .bool false, .bool false, .bool false, .bool false, .bool false, .bool false, .bool false, .bool false, .bool false, .bool false, .bool false, .bool false, .bool false, .bool false, .bool false, .bool false, .bool false, .bool false, .bool false, .bool false, .bool false, .bool false, .bool false, .bool false, .bool false, .bool false, .bool false, .bool false, .bool false, .bool false, .bool false, .bool false, .bool false, .bool false, .bool false, .bool false, .bool false, .bool false, .bool false, .bool false, .bool false, .bool false, .bool false, .bool false, .bool false, .bool false, .bool false, .bool false, .bool false, .bool false, .bool false, .bool false, .bool false, .bool false, .bool false, .bool false, .bool false, .bool false, .bool false, .bool false, .bool false, .bool false, .bool false, .bool false, .bool false, .bool false, .bool false, .bool false, .bool false, .bool false, .bool false, .bool false, .bool false, .bool false, .bool false, .bool false, .bool false, .bool false, .bool false, .bool false, .bool false, .bool false, .bool false, .bool false, .bool false, .bool false, .bool false, .bool false, .bool false, .bool false, .bool false, .bool false, .bool false, .bool false, .bool false, .bool false, .bool false, .bool false, .bool false, .bool false, .bool false, .bool false, .bool false, .bool false, .bool false, .bool false, .bool false, .bool false, .bool false, .bool false, .bool false, .bool false, .bool false, .bool false, .bool false, .bool false, .bool false, .bool false, .bool false, .bool false, .bool false, .bool false, .bool false, .bool false, .bool false, .bool false, .bool false, .bool false, .bool false, .bool false, .bool false, .bool false, .bool false, .bool false, .bool false, .bool false, .bool false, .bool false, .bool false, .bool false, .bool false, .bool false, .bool false, .bool false, .bool false, .bool false, .bool false, .bool false, .bool false, .bool false, .bool false, .bool false, .bool false, .bool false, .bool false, .bool false, .bool false, .bool false, .bool false, .bool false, .bool false, .bool false, .bool false, .bool false, .bool false, .bool false, .bool false, .bool false, .bool false, .bool false, .bool false, .bool false, .bool false, .bool false, .bool false, .bool false, .bool false, .bool false, .bool false, .bool false, .bool false, .bool false, .bool false, .bool false, .bool false, .bool false, .bool false, .bool false, .bool false, .bool false, .bool false, .bool false, .bool false, .bool false, .bool false, .bool false, .bool false, .bool false, .bool false, .bool false, .bool false, .bool false, .bool false, .bool false, .bool false, .bool false, .bool false, .bool false, .bool false, .bool false]) := by kernel_rfl
theorem i63 : (Tryz.prog.info? 63).map (fun i => (i.zero, i.size, i.bytes)) = some (some (.agg #[.bool false, .bool false, .bool false, .bool false, .bool false, .bool false, .bool false, .bool false, .bool false, .bool false, .bool false, .bool false, .bool false, .bool false, .bool false, .bool false, .bool false, .bool false, .bool false, .bool false, .bool false, .bool false, .bool false, .bool false, .bool false, .bool false, .bool false, .bool false, .bool false, .bool false, .bool false, .bool false, .bool false, .bool false, .bool false, .bool false, .bool false, .bool false, .bool false, .bool false, .bool false, .bool false, .bool false, .bool false, .bool false, .bool false, .bool false, .bool false, .bool false, .bool false, .bool false, .bool false, .bool false, .bool false, .bool false, .bool false, .bool false, .bool false, .bool false, .bool false, .bool false, .bool false, .bool false, .bool false, .bool false, .bool false, .bool false, .bool false, .bool false, .bool false, .bool false, .bool false, .bool false, .bool false, .bool false, .bool false, .bool false, .bool false, .bool false, .bool false, .bool false, .bool false, .bool false, .bool false, .bool false, .bool false, .bool false, .bool false, .bool false, .bool false, .bool false, .bool false, .bool false, .bool false, .bool false, .bool false, .bool false, .bool false, .bool false, .bool false, .bool false, .bool false, .bool false, .bool false, .bool false, .bool false, .bool false, .bool false, .bool false, .bool false, .bool false, .bool false, .bool false, .bool false, .bool false, .bool false, .bool false, .bool false, .bool false, .bool false, .bool false, .bool false, .bool false, .bool false, .bool false, .bool false, .bool false, .bool false, .bool false, .bool false, .bool false, .bool false, .bool false, .bool false, .bool false, .bool false, .bool false, .bool false, .bool false, .bool false, .bool false, .bool false, .bool false, .bool false, .bool false, .bool false, .bool false, .bool false, .bool false, .bool false, .bool false, .bool false, .bool false, .bool false, .bool false, .bool false, .bool false, .bool false, .bool false, .bool false, .bool false, .bool false, .bool false, .bool false, .bool false, .bool false, .bool false, .bool false, .bool false, .bool false, .bool false, .bool false, .bool false, .bool false, .bool false, .bool false, .bool false, .bool false, .bool false, .bool false, .bool false, .bool false, .bool false, .bool false, .bool false, .bool false, .bool false, .bool false, .bool false, .bool false, .bool false, .bool false, .bool false, .bool false, .bool false, .bool false, .bool false, .bool false, .bool false, .bool false, .bool false, .bool false, .bool false, .bool false, .bool false, .bool false, .bool false, .bool false, .bool false, .bool false, .bool false, .bool false, .bool false, .bool false, .bool false, .bool false, .bool false, .bool false, .bool false, .bool false, .bool false, .bool false, .bool false, .bool false, .bool false, .bool false, .bool false, .bool false, .bool false, .bool false, .bool false, .bool false, .bool false, .bool false, .bool false, .bool false, .bool false, .bool false, .bool false, .bool false, .bool false, .bool false, .bool false, .bool false, .bool false, .bool false, .bool false, .bool false, .bool false, .bool false, .bool false, .bool false, .bool false, .bool false, .bool false, .bool false]), 256, 256) := by kernel_rfl
theorem s64 : (Tryz.prog.info? 64).map (·.size) = some 256 := by kernel_rfl
theorem a64 : agg Tryz.prog 64 = true := by kernel_rfl
theorem z64 : (Tryz.prog.info? 64).bind (·.zero) = some (.agg #[.bool false, .bool false, .bool false, .bool false, .bool false, .bool false, .bool false, .bool false, .bool false, .bool false, .bool false, .bool false, .bool false, .bool false, .bool false, .bool false, .bool false, .bool false, .bool false, .bool false, .bool false, .bool false, .bool false, .bool false, .bool false, .bool false, .bool false, .bool false, .bool false, .bool false, .bool false, .bool false, .bool false, .bool false, .bool false, .bool false, .bool false, .bool false, .bool false, .bool false, .bool false, .bool false, .bool false, .bool false, .bool false, .bool false, .bool false, .bool false, .bool false, .bool false, .bool false, .bool false, .bool false, .bool false, .bool false, .bool false, .bool false, .bool false, .bool false, .bool false, .bool false, .bool false, .bool false, .bool false, .bool false, .bool false, .bool false, .bool false, .bool false, .bool false, .bool false, .bool false, .bool false, .bool false, .bool false, .bool false, .bool false, .bool false, .bool false, .bool false, .bool false, .bool false, .bool false, .bool false, .bool false, .bool false, .bool false, .bool false, .bool false, .bool false, .bool false, .bool false, .bool false, .bool false, .bool false, .bool false, .bool false, .bool false, .bool false, .bool false, .bool false, .bool false, .bool false, .bool false, .bool false, .bool false, .bool false, .bool false, .bool false, .bool false, .bool false, .bool false, .bool false, .bool false, .bool false, .bool false, .bool false, .bool false, .bool false, .bool false, .bool false, .bool false, .bool false, .bool false, .bool false, .bool false, .bool false, .bool false, .bool false, .bool false, .bool false, .bool false, .bool false, .bool false, .bool false, .bool false, .bool false, .bool false, .bool false, .bool false, .bool false, .bool false, .bool false, .bool false, .bool false, .bool false, .bool false, .bool false, .bool false, .bool false, .bool false, .bool false, .bool false, .bool false, .bool false, .bool false, .bool false, .bool false, .bool false, .bool false, .bool false, .bool false, .bool false, .bool false, .bool false, .bool false, .bool false, .bool false, .bool false, .bool false, .bool false, .bool false, .bool false, .bool false, .bool false, .bool false, .bool false, .bool false, .bool false, .bool false, .bool false, .bool false, .bool false, .bool false, .bool false, .bool false, .bool false, .bool false, .bool false, .bool false, .bool false, .bool false, .bool false, .bool false, .bool false, .bool false, .bool false, .bool false, .bool false, .bool false, .bool false, .bool false, .bool false, .bool false, .bool false, .bool false, .bool false, .bool false, .bool false, .bool false, .bool false, .bool false, .bool false, .bool false, .bool false, .bool false, .bool false, .bool false, .bool false, .bool false, .bool false, .bool false, .bool false, .bool false, .bool false, .bool false, .bool false, .bool false, .bool false, .bool false, .bool false, .bool false, .bool false, .bool false, .bool false, .bool false, .bool false, .bool false, .bool false, .bool false, .bool false, .bool false, .bool false, .bool false, .bool false, .bool false, .bool false, .bool false, .bool false, .bool false, .bool false, .bool false, .bool false, .bool false, .bool false, .bool false]) := by kernel_rfl
theorem i64 : (Tryz.prog.info? 64).map (fun i => (i.zero, i.size, i.bytes)) = some (some (.agg #[.bool false, .bool false, .bool false, .bool false, .bool false, .bool false, .bool false, .bool false, .bool false, .bool false, .bool false, .bool false, .bool false, .bool false, .bool false, .bool false, .bool false, .bool false, .bool false, .bool false, .bool false, .bool false, .bool false, .bool false, .bool false, .bool false, .bool false, .bool false, .bool false, .bool false, .bool false, .bool false, .bool false, .bool false, .bool false, .bool false, .bool false, .bool false, .bool false, .bool false, .bool false, .bool false, .bool false, .bool false, .bool false, .bool false, .bool false, .bool false, .bool false, .bool false, .bool false, .bool false, .bool false, .bool false, .bool false, .bool false, .bool false, .bool false, .bool false, .bool false, .bool false, .bool false, .bool false, .bool false, .bool false, .bool false, .bool false, .bool false, .bool false, .bool false, .bool false, .bool false, .bool false, .bool false, .bool false, .bool false, .bool false, .bool false, .bool false, .bool false, .bool false, .bool false, .bool false, .bool false, .bool false, .bool false, .bool false, .bool false, .bool false, .bool false, .bool false, .bool false, .bool false, .bool false, .bool false, .bool false, .bool false, .bool false, .bool false, .bool false, .bool false, .bool false, .bool false, .bool false, .bool false, .bool false, .bool false, .bool false, .bool false, .bool false, .bool false, .bool false, .bool false, .bool false, .bool false, .bool false, .bool false, .bool false, .bool false, .bool false, .bool false, .bool false, .bool false, .bool false, .bool false, .bool false, .bool false, .bool false, .bool false, .bool false, .bool false, .bool false, .bool false, .bool false, .bool false, .bool false, .bool false, .bool false, .bool false, .bool false, .bool false, .bool false, .bool false, .bool false, .bool false, .bool false, .bool false, .bool false, .bool false, .bool false, .bool false, .bool false, .bool false, .bool false, .bool false, .bool false, .bool false, .bool false, .bool false, .bool false, .bool false, .bool false, .bool false, .bool false, .bool false, .bool false, .bool false, .bool false, .bool false, .bool false, .bool false, .bool false, .bool false, .bool false, .bool false, .bool false, .bool false, .bool false, .bool false, .bool false, .bool false, .bool false, .bool false, .bool false, .bool false, .bool false, .bool false, .bool false, .bool false, .bool false, .bool false, .bool false, .bool false, .bool false, .bool false, .bool false, .bool false, .bool false, .bool false, .bool false, .bool false, .bool false, .bool false, .bool false, .bool false, .bool false, .bool false, .bool false, .bool false, .bool false, .bool false, .bool false, .bool false, .bool false, .bool false, .bool false, .bool false, .bool false, .bool false, .bool false, .bool false, .bool false, .bool false, .bool false, .bool false, .bool false, .bool false, .bool false, .bool false, .bool false, .bool false, .bool false, .bool false, .bool false, .bool false, .bool false, .bool false, .bool false, .bool false, .bool false, .bool false, .bool false, .bool false, .bool false, .bool false, .bool false, .bool false, .bool false, .bool false, .bool false, .bool false, .bool false, .bool false, .bool false, .bool false, .bool false]), 256, 256) := by kernel_rfl
theorem s65 : (Tryz.prog.info? 65).map (·.size) = some 1 := by kernel_rfl
theorem o65 : one Tryz.prog 65 = true := by kernel_rfl
theorem s66 : (Tryz.prog.info? 66).map (·.size) = some 1 := by kernel_rfl
theorem o66 : one Tryz.prog 66 = true := by kernel_rfl
theorem z66 : (Tryz.prog.info? 66).bind (·.zero) = some (.nilFunc) := by kernel_rfl
theorem i66 : (Tryz.prog.info? 66).map (fun i => (i.zero, i.size, i.bytes)) = some (some (.nilFunc), 1, 8) := by kernel_rfl
theorem s67 : (Tryz.prog.info? 67).map (·.size) = some 1 := by kernel_rfl
theorem o67 : one Tryz.prog 67 = true := by kernel_rfl
theorem z67 : (Tryz.prog.info? 67).bind (·.zero) = some (.nilFunc) := by kernel_rfl
theorem i67 : (Tryz.prog.info? 67).map (fun i => (i.zero, i.size, i.bytes)) = some (some (.nilFunc), 1, 8) := by kernel_rfl
theorem s68 : (Tryz.prog.info? 68).map (·.size) = some 1 := by kernel_rfl
theorem o68 : one Tryz.prog 68 = true := by kernel_rfl
theorem z68 : (Tryz.prog.info? 68).bind (·.zero) = some (.pointer none) := by kernel_rfl
theorem i68 : (Tryz.prog.info? 68).map (fun i => (i.zero, i.size, i.bytes)) = some (some (.pointer none), 1, 8) := by kernel_rfl
theorem s69 : (Tryz.prog.info? 69).map (·.size) = some 1 := by kernel_rfl
theorem o69 : one Tryz.prog 69 = true := by kernel_rfl
theorem z69 : (Tryz.prog.info? 69).bind (·.zero) = some (.pointer none) := by kernel_rfl
theorem i69 : (Tryz.prog.info? 69).map (fun i => (i.zero, i.size, i.bytes)) = some (some (.pointer none), 1, 8) := by kernel_rfl
theorem s70 : (Tryz.prog.info? 70).map (·.size) = some 1 := by kernel_rfl
theorem o70 : one Tryz.prog 70 = true := by kernel_rfl
theorem s71 : (Tryz.prog.info? 71).map (·.size) = some 1 := by kernel_rfl
theorem o71 : one Tryz.prog 71 = true := by kernel_rfl
theorem z71 : (Tryz.prog.info? 71).bind (·.zero) = some (.nilFunc) := by kernel_rfl
theorem i71 : (Tryz.prog.info? 71).map (fun i => (i.zero, i.size, i.bytes)) = some (some (.nilFunc), 1, 8) := by kernel_rfl
theorem s72 : (Tryz.prog.info? 72).map (·.size) = some 1 := by kernel_rfl
theorem o72 : one Tryz.prog 72 = true := by kernel_rfl
theorem s73 : (Tryz.prog.info? 73).map (·.size) = some 1 := by kernel_rfl
theorem o73 : one Tryz.prog 73 = true := by kernel_rfl
theorem z73 : (Tryz.prog.info? 73).bind (·.zero) = some (.nilFunc) := by kernel_rfl
theorem i73 : (Tryz.prog.info? 73).map (fun i => (i.zero, i.size, i.bytes)) = some (some (.nilFunc), 1, 8) := by kernel_rfl
theorem s74 : (Tryz.prog.info? 74).map (·.size) = some 1 := by kernel_rfl
theorem o74 : one Tryz.prog 74 = true := by kernel_rfl
theorem s75 : (Tryz.prog.info? 75).map (·.size) = some 1 := by kernel_rfl
theorem o75 : one Tryz.prog 75 = true := by kernel_rfl
theorem z75 : (Tryz.prog.info? 75).bind (·.zero) = some (.nilFunc) := by kernel_rfl
theorem i75 : (Tryz.prog.info? 75).map (fun i => (i.zero, i.size, i.bytes)) = some (some (.nilFunc), 1, 8) := by kernel_rfl
theorem s76 : (Tryz.prog.info? 76).map (·.size) = some 1 := by kernel_rfl
theorem o76 : one Tryz.prog 76 = true := by kernel_rfl
theorem z76 : (Tryz.prog.info? 76).bind (·.zero) = some (.nilFunc) := by kernel_rfl
theorem i76 : (Tryz.prog.info? 76).map (fun i => (i.zero, i.size, i.bytes)) = some (some (.nilFunc), 1, 8) := by kernel_rfl
theorem s77 : (Tryz.prog.info? 77).map (·.size) = some 1 := by kernel_rfl
theorem o77 : one Tryz.prog 77 = true := by kernel_rfl
theorem z77 : (Tryz.prog.info? 77).bind (·.zero) = some (.nilFunc) := by kernel_rfl
theorem i77 : (Tryz.prog.info? 77).map (fun i => (i.zero, i.size, i.bytes)) = some (some (.nilFunc), 1, 8) := by kernel_rfl
theorem s78 : (Tryz.prog.info? 78).map (·.size) = some 1 := by kernel_rfl
theorem o78 : one Tryz.prog 78 = true := by kernel_rfl
theorem z78 : (Tryz.prog.info? 78).bind (·.zero) = some (.int .u64 0) := by kernel_rfl
theorem i78 : (Tryz.prog.info? 78).map (fun i => (i.zero, i.size, i.bytes)) = some (some (.int .u64 0), 1, 8) := by kernel_rfl
theorem s79 : (Tryz.prog.info? 79).map (·.size) = some 1 := by kernel_rfl
theorem o79 : one Tryz.prog 79 = true := by kernel_rfl
theorem z79 : (Tryz.prog.info? 79).bind (·.zero) = some (.nilFunc) := by kernel_rfl
theorem i79 : (Tryz.prog.info? 79).map (fun i => (i.zero, i.size, i.bytes)) = some (some (.nilFunc), 1, 8) := by kernel_rfl
theorem s80 : (Tryz.prog.info? 80).map (·.size) = some 1 := by kernel_rfl
theorem o80 : one Tryz.prog 80 = true := by kernel_rfl
theorem z80 : (Tryz.prog.info? 80).bind (·.zero) = some (.nilFunc) := by kernel_rfl
theorem i80 : (Tryz.prog.info? 80).map (fun i => (i.zero, i.size, i.bytes)) = some (some (.nilFunc), 1, 8) := by kernel_rfl
theorem s81 : (Tryz.prog.info? 81).map (·.size) = some 1 := by kernel_rfl
theorem o81 : one Tryz.prog 81 = true := by kernel_rfl
theorem z81 : (Tryz.prog.info? 81).bind (·.zero) = some (.nilFunc) := by kernel_rfl
theorem i81 : (Tryz.prog.info? 81).map (fun i => (i.zero, i.size, i.bytes)) = some (some (.nilFunc), 1, 8) := by kernel_rfl
theorem s82 : (Tryz.prog.info? 82).map (·.size) = some 1 := by kernel_rfl
theorem o82 : one Tryz.prog 82 = true := by kernel_rfl
theorem s83 : (Tryz.prog.info? 83).map (·.size) = some 1 := by kernel_rfl
theorem o83 : one Tryz.prog 83 = true := by kernel_rfl
theorem z83 : (Tryz.prog.info? 83).bind (·.zero) = some (.nilFunc) := by kernel_rfl
theorem i83 : (Tryz.prog.info? 83).map (fun i => (i.zero, i.size, i.bytes)) = some (some (.nilFunc), 1, 8) := by kernel_rfl
theorem s84 : (Tryz.prog.info? 84).map (·.size) = some 1 := by kernel_rfl
theorem o84 : one Tryz.prog 84 = true := by kernel_rfl
theorem z84 : (Tryz.prog.info? 84).bind (·.zero) = some (.nilFunc) := by kernel_rfl
theorem i84 : (Tryz.prog.info? 84).map (fun i => (i.zero, i.size, i.bytes)) = some (some (.nilFunc), 1, 8) := by kernel_rfl
theorem s85 : (Tryz.prog.info? 85).map (·.size) = some 2 := by kernel_rfl
theorem a85 : agg Tryz.prog 85 = true := by kernel_rfl
theorem z85 : (Tryz.prog.info? 85).bind (·.zero) = some (.agg #[.int .i64 0, .int .i64 0]) := by kernel_rfl
theorem i85 : (Tryz.prog.info? 85).map (fun i => (i.zero, i.size, i.bytes)) = some (some (.agg #[.int .i64 0, .int .i64 0]), 2, 16) := by kernel_rfl
theorem p85 : placesOf Tryz.prog 85 = some [(0, 1), (1, 1)] := by kernel_rfl
theorem s86 : (Tryz.prog.info? 86).map (·.size) = some 2 := by kernel_rfl
theorem a86 : agg Tryz.prog 86 = true := by kernel_rfl
theorem z86 : (Tryz.prog.info? 86).bind (·.zero) = some (.agg #[.int .i64 0, .int .i64 0]) := by kernel_rfl
theorem i86 : (Tryz.prog.info? 86).map (fun i => (i.zero, i.size, i.bytes)) = some (some (.agg #[.int .i64 0, .int .i64 0]), 2, 16) := by kernel_rfl
theorem p86 : placesOf Tryz.prog 86 = some [(0, 1), (1, 1)] := by kernel_rfl
theorem s87 : (Tryz.prog.info? 87).map (·.size) = some 1 := by kernel_rfl
theorem o87 : one Tryz.prog 87 = true := by kernel_rfl
theorem s88 : (Tryz.prog.info? 88).map (·.size) = some 1 := by kernel_rfl
theorem o88 : one Tryz.prog 88 = true := by kernel_rfl
theorem z88 : (Tryz.prog.info? 88).bind (·.zero) = some (.pointer none) := by kernel_rfl
theorem i88 : (Tryz.prog.info? 88).map (fun i => (i.zero, i.size, i.bytes)) = some (some (.pointer none), 1, 8) := by kernel_rfl
theorem s89 : (Tryz.prog.info? 89).map (·.size) = some 3 := by kernel_rfl
theorem a89 : agg Tryz.prog 89 = true := by kernel_rfl
theorem z89 : (Tryz.prog.info? 89).bind (·.zero) = some (.agg #[.string ⟨#[]⟩, .int .i64 0, .int .i64 0]) := by kernel_rfl
theorem i89 : (Tryz.prog.info? 89).map (fun i => (i.zero, i.size, i.bytes)) = some (some (.agg #[.string ⟨#[]⟩, .int .i64 0, .int .i64 0]), 3, 32) := by kernel_rfl
theorem p89 : placesOf Tryz.prog 89 = some [(0, 1), (1, 1), (2, 1)] := by kernel_rfl
theorem s90 : (Tryz.prog.info? 90).map (·.size) = some 3 := by kernel_rfl
theorem a90 : agg Tryz.prog 90 = true := by kernel_rfl
theorem z90 : (Tryz.prog.info? 90).bind (·.zero) = some (.agg #[.string ⟨#[]⟩, .int .i64 0, .int .i64 0]) := by kernel_rfl
theorem i90 : (Tryz.prog.info? 90).map (fun i => (i.zero, i.size, i.bytes)) = some (some (.agg #[.string ⟨#[]⟩, .int .i64 0, .int .i64 0]), 3, 32) := by kernel_rfl
theorem p90 : placesOf Tryz.prog 90 = some [(0, 1), (1, 1), (2, 1)] := by kernel_rfl
theorem s91 : (Tryz.prog.info? 91).map (·.size) = some 1 := by kernel_rfl
theorem o91 : one Tryz.prog 91 = true := by kernel_rfl
theorem z91 : (Tryz.prog.info? 91).bind (·.zero) = some (.nilFunc) := by kernel_rfl
theorem i91 : (Tryz.prog.info? 91).map (fun i => (i.zero, i.size, i.bytes)) = some (some (.nilFunc), 1, 8) := by kernel_rfl
theorem s92 : (Tryz.prog.info? 92).map (·.size) = some 1 := by kernel_rfl
theorem o92 : one Tryz.prog 92 = true := by kernel_rfl
theorem z92 : (Tryz.prog.info? 92).bind (·.zero) = some (.nilFunc) := by kernel_rfl
theorem i92 : (Tryz.prog.info? 92).map (fun i => (i.zero, i.size, i.bytes)) = some (some (.nilFunc), 1, 8) := by kernel_rfl
theorem s93 : (Tryz.prog.info? 93).map (·.size) = some 1 := by kernel_rfl
theorem o93 : one Tryz.prog 93 = true := by kernel_rfl
theorem z93 : (Tryz.prog.info? 93).bind (·.zero) = some (.pointer none) := by kernel_rfl
theorem i93 : (Tryz.prog.info? 93).map (fun i => (i.zero, i.size, i.bytes)) = some (some (.pointer none), 1, 8) := by kernel_rfl
theorem s94 : (Tryz.prog.info? 94).map (·.size) = some 3 := by kernel_rfl
theorem a94 : agg Tryz.prog 94 = true := by kernel_rfl
theorem z94 : (Tryz.prog.info? 94).bind (·.zero) = some (.agg #[.string ⟨#[]⟩, .int .i64 0, .bool false]) := by kernel_rfl
theorem i94 : (Tryz.prog.info? 94).map (fun i => (i.zero, i.size, i.bytes)) = some (some (.agg #[.string ⟨#[]⟩, .int .i64 0, .bool false]), 3, 32) := by kernel_rfl
theorem p94 : placesOf Tryz.prog 94 = some [(0, 1), (1, 1), (2, 1)] := by kernel_rfl
theorem s95 : (Tryz.prog.info? 95).map (·.size) = some 3 := by kernel_rfl
theorem a95 : agg Tryz.prog 95 = true := by kernel_rfl
theorem z95 : (Tryz.prog.info? 95).bind (·.zero) = some (.agg #[.string ⟨#[]⟩, .int .i64 0, .bool false]) := by kernel_rfl
theorem i95 : (Tryz.prog.info? 95).map (fun i => (i.zero, i.size, i.bytes)) = some (some (.agg #[.string ⟨#[]⟩, .int .i64 0, .bool false]), 3, 32) := by kernel_rfl
theorem p95 : placesOf Tryz.prog 95 = some [(0, 1), (1, 1), (2, 1)] := by kernel_rfl
theorem s96 : (Tryz.prog.info? 96).map (·.size) = some 1 := by kernel_rfl
theorem o96 : one Tryz.prog 96 = true := by kernel_rfl
theorem z96 : (Tryz.prog.info? 96).bind (·.zero) = some (.slice none 0 0) := by kernel_rfl
theorem i96 : (Tryz.prog.info? 96).map (fun i => (i.zero, i.size, i.bytes)) = some (some (.slice none 0 0), 1, 24) := by kernel_rfl
theorem s97 : (Tryz.prog.info? 97).map (·.size) = some 4 := by kernel_rfl
theorem a97 : agg Tryz.prog 97 = true := by kernel_rfl
theorem z97 : (Tryz.prog.info? 97).bind (·.zero) = some (.agg #[.string ⟨#[]⟩, .slice none 0 0, .slice none 0 0, .bool false]) := by kernel_rfl
theorem i97 : (Tryz.prog.info? 97).map (fun i => (i.zero, i.size, i.bytes)) = some (some (.agg #[.string ⟨#[]⟩, .slice none 0 0, .slice none 0 0, .bool false]), 4, 72) := by kernel_rfl
theorem p97 : placesOf Tryz.prog 97 = some [(0, 1), (1, 1), (2, 1), (3, 1)] := by kernel_rfl
theorem s98 : (Tryz.prog.info? 98).map (·.size) = some 4 := by kernel_rfl
theorem a98 : agg Tryz.prog 98 = true := by kernel_rfl
theorem z98 : (Tryz.prog.info? 98).bind (·.zero) = some (.agg #[.string ⟨#[]⟩, .slice none 0 0, .slice none 0 0, .bool false]) := by kernel_rfl
theorem i98 : (Tryz.prog.info? 98).map (fun i => (i.zero, i.size, i.bytes)) = some (some (.agg #[.string ⟨#[]⟩, .slice none 0 0, .slice none 0 0, .bool false]), 4, 72) := by kernel_rfl
theorem p98 : placesOf Tryz.prog 98 = some [(0, 1), (1, 1), (2, 1), (3, 1)] := by kernel_rfl
theorem s99 : (Tryz.prog.info? 99).map (·.size) = some 1 := by kernel_rfl
theorem o99 : one Tryz.prog 99 = true := by kernel_rfl
theorem z99 : (Tryz.prog.info? 99).bind (·.zero) = some (.nilFunc) := by kernel_rfl
theorem i99 : (Tryz.prog.info? 99).map (fun i => (i.zero, i.size, i.bytes)) = some (some (.nilFunc), 1, 8) := by kernel_rfl
theorem s100 : (Tryz.prog.info? 100).map (·.size) = some 1 := by kernel_rfl
theorem o100 : one Tryz.prog 100 = true := by kernel_rfl
theorem z100 : (Tryz.prog.info? 100).bind (·.zero) = some (.nilFunc) := by kernel_rfl
theorem i100 : (Tryz.prog.info? 100).map (fun i => (i.zero, i.size, i.bytes)) = some (some (.nilFunc), 1, 8) := by kernel_rfl
theorem s101 : (Tryz.prog.info? 101).map (·.size) = some 1 := by kernel_rfl
theorem o101 : one Tryz.prog 101 = true := by kernel_rfl
theorem z101 : (Tryz.prog.info? 101).bind (·.zero) = some (.nilFunc) := by kernel_rfl
theorem i101 : (Tryz.prog.info? 101).map (fun i => (i.zero, i.size, i.bytes)) = some (some (.nilFunc), 1, 8) := by kernel_rfl
theorem s102 : (Tryz.prog.info? 102).map (·.size) = some 1 := by kernel_rfl
theorem o102 : one Tryz.prog 102 = true := by kernel_rfl
theorem z102 : (Tryz.prog.info? 102).bind (·.zero) = some (.nilFunc) := by kernel_rfl
theorem i102 : (Tryz.prog.info? 102).map (fun i => (i.zero, i.size, i.bytes)) = some (some (.nilFunc), 1, 8) := by kernel_rfl
theorem s103 : (Tryz.prog.info? 103).map (·.size) = some 1 := by kernel_rfl
theorem o103 : one Tryz.prog 103 = true := by kernel_rfl
theorem z103 : (Tryz.prog.info? 103).bind (·.zero) = some (.nilFunc) := by kernel_rfl
theorem i103 : (Tryz.prog.info? 103).map (fun i => (i.zero, i.size, i.bytes)) = some (some (.nilFunc), 1, 8) := by kernel_rfl
theorem s104 : (Tryz.prog.info? 104).map (·.size) = some 1 := by kernel_rfl
theorem o104 : one Tryz.prog 104 = true := by kernel_rfl
theorem z104 : (Tryz.prog.info? 104).bind (·.zero) = some (.int .i64 0) := by kernel_rfl
theorem i104 : (Tryz.prog.info? 104).map (fun i => (i.zero, i.size, i.bytes)) = some (some (.int .i64 0), 1, 8) := by kernel_rfl
theorem s105 : (Tryz.prog.info? 105).map (·.size) = some 1 := by kernel_rfl
theorem o105 : one Tryz.prog 105 = true := by kernel_rfl
theorem s106 : (Tryz.prog.info? 106).map (·.size) = some 1 := by kernel_rfl
theorem o106 : one Tryz.prog 106 = true := by kernel_rfl
theorem z106 : (Tryz.prog.info? 106).bind (·.zero) = some (.nilFunc) := by kernel_rfl
theorem i106 : (Tryz.prog.info? 106).map (fun i => (i.zero, i.size, i.bytes)) = some (some (.nilFunc), 1, 8) := by kernel_rfl
theorem s107 : (Tryz.prog.info? 107).map (·.size) = some 1 := by kernel_rfl
theorem o107 : one Tryz.prog 107 = true := by kernel_rfl
theorem z107 : (Tryz.prog.info? 107).bind (·.zero) = some (.nilFunc) := by kernel_rfl
theorem i107 : (Tryz.prog.info? 107).map (fun i => (i.zero, i.size, i.bytes)) = some (some (.nilFunc), 1, 8) := by kernel_rfl
theorem s108 : (Tryz.prog.info? 108).map (·.size) = some 1 := by kernel_rfl
theorem o108 : one Tryz.prog 108 = true := by kernel_rfl
theorem z108 : (Tryz.prog.info? 108).bind (·.zero) = some (.nilFunc) := by kernel_rfl
theorem i108 : (Tryz.prog.info? 108).map (fun i => (i.zero, i.size, i.bytes)) = some (some (.nilFunc), 1, 8) := by kernel_rfl
theorem s109 : (Tryz.prog.info? 109).map (·.size) = some 1 := by kernel_rfl
theorem o109 : one Tryz.prog 109 = true := by kernel_rfl
theorem z109 : (Tryz.prog.info? 109).bind (·.zero) = some (.nilFunc) := by kernel_rfl
theorem i109 : (Tryz.prog.info? 109).map (fun i => (i.zero, i.size, i.bytes)) = some (some (.nilFunc), 1, 8) := by kernel_rfl
theorem s110 : (Tryz.prog.info? 110).map (·.size) = some 1 := by kernel_rfl
theorem o110 : one Tryz.prog 110 = true := by kernel_rfl
theorem z110 : (Tryz.prog.info? 110).bind (·.zero) = some (.nilFunc) := by kernel_rfl
theorem i110 : (Tryz.prog.info? 110).map (fun i => (i.zero, i.size, i.bytes)) = some (some (.nilFunc), 1, 8) := by kernel_rfl
theorem s111 : (Tryz.prog.info? 111).map (·.size) = some 1 := by kernel_rfl
theorem o111 : one Tryz.prog 111 = true := by kernel_rfl
theorem z111 : (Tryz.prog.info? 111).bind (·.zero) = some (.nilFunc) := by kernel_rfl
theorem i111 : (Tryz.prog.info? 111).map (fun i => (i.zero, i.size, i.bytes)) = some (some (.nilFunc), 1, 8) := by kernel_rfl
theorem s112 : (Tryz.prog.info? 112).map (·.size) = some 1 := by kernel_rfl
theorem o112 : one Tryz.prog 112 = true := by kernel_rfl
theorem z112 : (Tryz.prog.info? 112).bind (·.zero) = some (.int .u32 0) := by kernel_rfl
theorem i112 : (Tryz.prog.info? 112).map (fun i => (i.zero, i.size, i.bytes)) = some (some (.int .u32 0), 1, 4) := by kernel_rfl
theorem s113 : (Tryz.prog.info? 113).map (·.size) = some 1 := by kernel_rfl
theorem o113 : one Tryz.prog 113 = true := by kernel_rfl
theorem z113 : (Tryz.prog.info? 113).bind (·.zero) = some (.nilFunc) := by kernel_rfl
theorem i113 : (Tryz.prog.info? 113).map (fun i => (i.zero, i.size, i.bytes)) = some (some (.nilFunc), 1, 8) := by kernel_rfl
theorem s114 : (Tryz.prog.info? 114).map (·.size) = some 1 := by kernel_rfl
theorem o114 : one Tryz.prog 114 = true := by kernel_rfl
theorem z114 : (Tryz.prog.info? 114).bind (·.zero) = some (.int .u64 0) := by kernel_rfl
theorem i114 : (Tryz.prog.info? 114).map (fun i => (i.zero, i.size, i.bytes)) = some (some (.int .u64 0), 1, 8) := by kernel_rfl
theorem s115 : (Tryz.prog.info? 115).map (·.size) = some 24 := by kernel_rfl
theorem a115 : agg Tryz.prog 115 = true := by kernel_rfl
theorem z115 : (Tryz.prog.info? 115).bind (·.zero) = some (.agg #[.int .u8 0, .int .u8 0, .int .u8 0, .int .u8 0, .int .u8 0, .int .u8 0, .int .u8 0, .int .u8 0, .int .u8 0, .int .u8 0, .int .u8 0, .int .u8 0, .int .u8 0, .int .u8 0, .int .u8 0, .int .u8 0, .int .u8 0, .int .u8 0, .int .u8 0, .int .u8 0, .int .u8 0, .int .u8 0, .int .u8 0, .int .u8 0]) := by kernel_rfl
theorem i115 : (Tryz.prog.info? 115).map (fun i => (i.zero, i.size, i.bytes)) = some (some (.agg #[.int .u8 0, .int .u8 0, .int .u8 0, .int .u8 0, .int .u8 0, .int .u8 0, .int .u8 0, .int .u8 0, .int .u8 0, .int .u8 0, .int .u8 0, .int .u8 0, .int .u8 0, .int .u8 0, .int .u8 0, .int .u8 0, .int .u8 0, .int .u8 0, .int .u8 0, .int .u8 0, .int .u8 0, .int .u8 0, .int .u8 0, .int .u8 0]), 24, 24) := by kernel_rfl
theorem s116 : (Tryz.prog.info? 116).map (·.size) = some 1 := by kernel_rfl
theorem o116 : one Tryz.prog 116 = true := by kernel_rfl
theorem z116 : (Tryz.prog.info? 116).bind (·.zero) = some (.nilFunc) := by kernel_rfl
theorem i116 : (Tryz.prog.info? 116).map (fun i => (i.zero, i.size, i.bytes)) = some (some (.nilFunc), 1, 8) := by kernel_rfl
theorem s117 : (Tryz.prog.info? 117).map (·.size) = some 1 := by kernel_rfl
theorem o117 : one Tryz.prog 117 = true := by kernel_rfl
theorem s118 : (Tryz.prog.info? 118).map (·.size) = some 1 := by kernel_rfl
theorem o118 : one Tryz.prog 118 = true := by kernel_rfl
theorem z118 : (Tryz.prog.info? 118).bind (·.zero) = some (.nilFunc) := by kernel_rfl
theorem i118 : (Tryz.prog.info? 118).map (fun i => (i.zero, i.size, i.bytes)) = some (some (.nilFunc), 1, 8) := by kernel_rfl
theorem s119 : (Tryz.prog.info? 119).map (·.size) = some 1 := by kernel_rfl
theorem o119 : one Tryz.prog 119 = true := by kernel_rfl
theorem z119 : (Tryz.prog.info? 119).bind (·.zero) = some (.nilFunc) := by kernel_rfl
theorem i119 : (Tryz.prog.info? 119).map (fun i => (i.zero, i.size, i.bytes)) = some (some (.nilFunc), 1, 8) := by kernel_rfl
theorem s120 : (Tryz.prog.info? 120).map (·.size) = some 1 := by kernel_rfl
theorem o120 : one Tryz.prog 120 = true := by kernel_rfl
theorem z120 : (Tryz.prog.info? 120).bind (·.zero) = some (.nilFunc) := by kernel_rfl
theorem i120 : (Tryz.prog.info? 120).map (fun i => (i.zero, i.size, i.bytes)) = some (some (.nilFunc), 1, 8) := by kernel_rfl
theorem s121 : (Tryz.prog.info? 121).map (·.size) = some 1 := by kernel_rfl
theorem o121 : one Tryz.prog 121 = true := by kernel_rfl
theorem z121 : (Tryz.prog.info? 121).bind (·.zero) = some (.nilFunc) := by kernel_rfl
theorem i121 : (Tryz.prog.info? 121).map (fun i => (i.zero, i.size, i.bytes)) = some (some (.nilFunc), 1, 8) := by kernel_rfl
theorem s122 : (Tryz.prog.info? 122).map (·.size) = some 1 := by kernel_rfl
theorem o122 : one Tryz.prog 122 = true := by kernel_rfl
theorem z122 : (Tryz.prog.info? 122).bind (·.zero) = some (.nilFunc) := by kernel_rfl
theorem i122 : (Tryz.prog.info? 122).map (fun i => (i.zero, i.size, i.bytes)) = some (some (.nilFunc), 1, 8) := by kernel_rfl
theorem s123 : (Tryz.prog.info? 123).map (·.size) = some 3 := by kernel_rfl
theorem a123 : agg Tryz.prog 123 = true := by kernel_rfl
theorem z123 : (Tryz.prog.info? 123).bind (·.zero) = some (.agg #[.string ⟨#[]⟩, .string ⟨#[]⟩, .bool false]) := by kernel_rfl
theorem i123 : (Tryz.prog.info? 123).map (fun i => (i.zero, i.size, i.bytes)) = some (some (.agg #[.string ⟨#[]⟩, .string ⟨#[]⟩, .bool false]), 3, 40) := by kernel_rfl
theorem p123 : placesOf Tryz.prog 123 = some [(0, 1), (1, 1), (2, 1)] := by kernel_rfl
theorem s124 : (Tryz.prog.info? 124).map (·.size) = some 3 := by kernel_rfl
theorem a124 : agg Tryz.prog 124 = true := by kernel_rfl
theorem z124 : (Tryz.prog.info? 124).bind (·.zero) = some (.agg #[.string ⟨#[]⟩, .string ⟨#[]⟩, .bool false]) := by kernel_rfl
theorem i124 : (Tryz.prog.info? 124).map (fun i => (i.zero, i.size, i.bytes)) = some (some (.agg #[.string ⟨#[]⟩, .string ⟨#[]⟩, .bool false]), 3, 40) := by kernel_rfl
theorem p124 : placesOf Tryz.prog 124 = some [(0, 1), (1, 1), (2, 1)] := by kernel_rfl
theorem s125 : (Tryz.prog.info? 125).map (·.size) = some 1 := by kernel_rfl
theorem o125 : one Tryz.prog 125 = true := by kernel_rfl
theorem z125 : (Tryz.prog.info? 125).bind (·.zero) = some (.nilFunc) := by kernel_rfl
theorem i125 : (Tryz.prog.info? 125).map (fun i => (i.zero, i.size, i.bytes)) = some (some (.nilFunc), 1, 8) := by kernel_rfl
theorem s126 : (Tryz.prog.info? 126).map (·.size) = some 1 := by kernel_rfl
theorem o126 : one Tryz.prog 126 = true := by kernel_rfl
theorem z126 : (Tryz.prog.info? 126).bind (·.zero) = some (.nilFunc) := by kernel_rfl
theorem i126 : (Tryz.prog.info? 126).map (fun i => (i.zero, i.size, i.bytes)) = some (some (.nilFunc), 1, 8) := by kernel_rfl
theorem s127 : (Tryz.prog.info? 127).map (·.size) = some 1 := by kernel_rfl
theorem o127 : one Tryz.prog 127 = true := by kernel_rfl
theorem s128 : (Tryz.prog.info? 128).map (·.size) = some 1 := by kernel_rfl
theorem o128 : one Tryz.prog 128 = true := by kernel_rfl
theorem z128 : (Tryz.prog.info? 128).bind (·.zero) = some (.nilFunc) := by kernel_rfl
theorem i128 : (Tryz.prog.info? 128).map (fun i => (i.zero, i.size, i.bytes)) = some (some (.nilFunc), 1, 8) := by kernel_rfl
theorem s129 : (Tryz.prog.info? 129).map (·.size) = some 1 := by kernel_rfl
theorem o129 : one Tryz.prog 129 = true := by kernel_rfl
theorem z129 : (Tryz.prog.info? 129).bind (·.zero) = some (.nilFunc) := by kernel_rfl
theorem i129 : (Tryz.prog.info? 129).map (fun i => (i.zero, i.size, i.bytes)) = some (some (.nilFunc), 1, 8) := by kernel_rfl
theorem s130 : (Tryz.prog.info? 130).map (·.size) = some 1 := by kernel_rfl
theorem o130 : one Tryz.prog 130 = true := by kernel_rfl
theorem z130 : (Tryz.prog.info? 130).bind (·.zero) = some (.int .u64 0) := by kernel_rfl
theorem i130 : (Tryz.prog.info? 130).map (fun i => (i.zero, i.size, i.bytes)) = some (some (.int .u64 0), 1, 8) := by kernel_rfl
theorem s131 : (Tryz.prog.info? 131).map (·.size) = some 1 := by kernel_rfl
theorem o131 : one Tryz.prog 131 = true := by kernel_rfl
theorem z131 : (Tryz.prog.info? 131).bind (·.zero) = some (.nilFunc) := by kernel_rfl
theorem i131 : (Tryz.prog.info? 131).map (fun i => (i.zero, i.size, i.bytes)) = some (some (.nilFunc), 1, 8) := by kernel_rfl
theorem s132 : (Tryz.prog.info? 132).map (·.size) = some 1 := by kernel_rfl
theorem o132 : one Tryz.prog 132 = true := by kernel_rfl
theorem z132 : (Tryz.prog.info? 132).bind (·.zero) = some (.nilFunc) := by kernel_rfl
theorem i132 : (Tryz.prog.info? 132).map (fun i => (i.zero, i.size, i.bytes)) = some (some (.nilFunc), 1, 8) := by kernel_rfl
theorem s133 : (Tryz.prog.info? 133).map (·.size) = some 1 := by kernel_rfl
theorem o133 : one Tryz.prog 133 = true := by kernel_rfl
theorem z133 : (Tryz.prog.info? 133).bind (·.zero) = some (.nilFunc) := by kernel_rfl
theorem i133 : (Tryz.prog.info? 133).map (fun i => (i.zero, i.size, i.bytes)) = some (some (.nilFunc), 1, 8) := by kernel_rfl
theorem s134 : (Tryz.prog.info? 134).map (·.size) = some 1 := by kernel_rfl
theorem o134 : one Tryz.prog 134 = true := by kernel_rfl
theorem z134 : (Tryz.prog.info? 134).bind (·.zero) = some (.pointer none) := by kernel_rfl
theorem i134 : (Tryz.prog.info? 134).map (fun i => (i.zero, i.size, i.bytes)) = some (some (.pointer none), 1, 8) := by kernel_rfl
theorem s135 : (Tryz.prog.info? 135).map (·.size) = some 1 := by kernel_rfl
theorem o135 : one Tryz.prog 135 = true := by kernel_rfl
theorem z135 : (Tryz.prog.info? 135).bind (·.zero) = some (.nilFunc) := by kernel_rfl
theorem i135 : (Tryz.prog.info? 135).map (fun i => (i.zero, i.size, i.bytes)) = some (some (.nilFunc), 1, 8) := by kernel_rfl
theorem s136 : (Tryz.prog.info? 136).map (·.size) = some 1 := by kernel_rfl
theorem o136 : one Tryz.prog 136 = true := by kernel_rfl
theorem z136 : (Tryz.prog.info? 136).bind (·.zero) = some (.nilFunc) := by kernel_rfl
theorem i136 : (Tryz.prog.info? 136).map (fun i => (i.zero, i.size, i.bytes)) = some (some (.nilFunc), 1, 8) := by kernel_rfl
theorem s137 : (Tryz.prog.info? 137).map (·.size) = some 20 := by kernel_rfl
theorem a137 : agg Tryz.prog 137 = true := by kernel_rfl
theorem z137 : (Tryz.prog.info? 137).bind (·.zero) = some (.agg #[.int .u64 0, .int .u64 0, .int .u64 0, .int .u64 0, .int .u64 0, .int .u64 0, .int .u64 0, .int .u64 0, .int .u64 0, .int .u64 0, .int .u64 0, .int .u64 0, .int .u64 0, .int .u64 0, .int .u64 0, .int .u64 0, .int .u64 0, .int .u64 0, .int .u64 0, .int .u64 0]) := by kernel_rfl
theorem i137 : (Tryz.prog.info? 137).map (fun i => (i.zero, i.size, i.bytes)) = some (some (.agg #[.int .u64 0, .int .u64 0, .int .u64 0, .int .u64 0, .int .u64 0, .int .u64 0, .int .u64 0, .int .u64 0, .int .u64 0, .int .u64 0, .int .u64 0, .int .u64 0, .int .u64 0, .int .u64 0, .int .u64 0, .int .u64 0, .int .u64 0, .int .u64 0, .int .u64 0, .int .u64 0]), 20, 160) := by kernel_rfl
theorem s138 : (Tryz.prog.info? 138).map (·.size) = some 65 := by kernel_rfl
theorem a138 : agg Tryz.prog 138 = true := by kernel_rfl
theorem z138 : (Tryz.prog.info? 138).bind (·.zero) = some (.agg #[.int .u8 0, .int .u8 0, .int .u8 0, .int .u8 0, .int .u8 0, .int .u8 0, .int .u8 0, .int .u8 0, .int .u8 0, .int .u8 0, .int .u8 0, .int .u8 0, .int .u8 0, .int .u8 0, .int .u8 0, .int .u8 0, .int .u8 0, .int .u8 0, .int .u8 0, .int .u8 0, .int .u8 0, .int .u8 0, .int .u8 0, .int .u8 0, .int .u8 0, .int .u8 0, .int .u8 0, .int .u8 0, .int .u8 0, .int .u8 0, .int .u8 0, .int .u8 0, .int .u8 0, .int .u8 0, .int .u8 0, .int .u8 0, .int .u8 0, .int .u8 0, .int .u8 0, .int .u8 0, .int .u8 0, .int .u8 0, .int .u8 0, .int .u8 0, .int .u8 0, .int .u8 0, .int .u8 0, .int .u8 0, .int .u8 0, .int .u8 0, .int .u8 0, .int .u8 0, .int .u8 0, .int .u8 0, .int .u8 0, .int .u8 0, .int .u8 0, .int .u8 0, .int .u8 0, .int .u8 0, .int .u8 0, .int .u8 0, .int .u8 0, .int .u8 0, .int .u8 0]) := by kernel_rfl
theorem i138 : (Tryz.prog.info? 138).map (fun i => (i.zero, i.size, i.bytes)) = some (some (.agg #[.int .u8 0, .int .u8 0, .int .u8 0, .int .u8 0, .int .u8 0, .int .u8 0, .int .u8 0, .int .u8 0, .int .u8 0, .int .u8 0, .int .u8 0, .int .u8 0, .int .u8 0, .int .u8 0, .int .u8 0, .int .u8 0, .int .u8 0, .int .u8 0, .int .u8 0, .int .u8 0, .int .u8 0, .int .u8 0, .int .u8 0, .int .u8 0, .int .u8 0, .int .u8 0, .int .u8 0, .int .u8 0, .int .u8 0, .int .u8 0, .int .u8 0, .int .u8 0, .int .u8 0, .int .u8 0, .int .u8 0, .int .u8 0, .int .u8 0, .int .u8 0, .int .u8 0, .int .u8 0, .int .u8 0, .int .u8 0, .int .u8 0, .int .u8 0, .int .u8 0, .int .u8 0, .int .u8 0, .int .u8 0, .int .u8 0, .int .u8 0, .int .u8 0, .int .u8 0, .int .u8 0, .int .u8 0, .int .u8 0, .int .u8 0, .int .u8 0, .int .u8 0, .int .u8 0, .int .u8 0, .int .u8 0, .int .u8 0, .int .u8 0, .int .u8 0, .int .u8 0]), 65, 65) := by kernel_rfl
theorem s139 : (Tryz.prog.info? 139).map (·.size) = some 1 := by kernel_rfl
theorem o139 : one Tryz.prog 139 = true := by kernel_rfl
theorem z139 : (Tryz.prog.info? 139).bind (·.zero) = some (.nilFunc) := by kernel_rfl
theorem i139 : (Tryz.prog.info? 139).map (fun i => (i.zero, i.size, i.bytes)) = some (some (.nilFunc), 1, 8) := by kernel_rfl
theorem s140 : (Tryz.prog.info? 140).map (·.size) = some 1 := by kernel_rfl
theorem o140 : one Tryz.prog 140 = true := by kernel_rfl
theorem s141 : (Tryz.prog.info? 141).map (·.size) = some 1 := by kernel_rfl
theorem o141 : one Tryz.prog 141 = true := by kernel_rfl
theorem z141 : (Tryz.prog.info? 141).bind (·.zero) = some (.nilFunc) := by kernel_rfl
theorem i141 : (Tryz.prog.info? 141).map (fun i => (i.zero, i.size, i.bytes)) = some (some (.nilFunc), 1, 8) := by kernel_rfl
theorem s142 : (Tryz.prog.info? 142).map (·.size) = some 256 := by kernel_rfl
theorem a142 : agg Tryz.prog 142 = true := by kernel_rfl
theorem z142 : (Tryz.prog.info? 142).bind (·.zero) = some (.agg #[.int .u8 0, .int .u8 0, .int .u8 0, .int .u8 0, .int .u8 0, .int .u8 0, .int .u8 0, .int .u8 0, .int .u8 0, .int .u8 0, .int .u8 0, .int .u8 0, .int .u8 0, .int .u8 0, .int .u8 0, .int .u8 0, .int .u8 0, .int .u8 0, .int .u8 0, .int .u8 0, .int .u8 0, .int .u8 0, .int .u8 0, .int .u8 0, .int .u8 0, .int .u8 0, .int .u8 0, .int .u8 0, .int .u8 0, .int .u8 0, .int .u8 0, .int .u8 0, .int .u8 0, .int .u8 0, .int .u8 0, .int .u8 0, .int .u8 0, .int .u8 0, .int .u8 0, .int .u8 0, .int .u8 0, .int .u8 0, .int .u8 0, .int .u8 0, .int .u8 0, .int .u8 0, .int .u8 0, .int .u8 0, .int .u8 0, .int .u8 0, .int .u8 0, .int .u8 0, .int .u8 0, .int .u8 0, .int .u8 0, .int .u8 0, .int .u8 0, .int .u8 0, .int .u8 0, .int .u8 0, .int .u8 0, .int .u8 0, .int .u8 0, .int .u8 0, .int .u8 0, .int .u8 0, .int .u8 0, .int .u8 0, .int .u8 0, .int .u8 0, .int .u8 0, .int .u8 0, .int .u8 0, .int .u8 0, .int .u8 0, .int .u8 0, .int .u8 0, .int .u8 0, .int .u8 0, .int .u8 0, .int .u8 0, .int .u8 0, .int .u8 0, .int .u8 0, .int .u8 0, .int .u8 0, .int .u8 0, .int .u8 0, .int .u8 0, .int .u8 0, .int .u8 0, .int .u8 0, .int .u8 0, .int .u8 0, .int .u8 0, .int .u8 0, .int .u8 0, .int .u8 0, .int .u8 0, .int .u8 0, .int .u8 0, .int .u8 0, .int .u8 0, .int .u8 0, .int .u8 0, .int .u8 0, .int .u8 0, .int .u8 0, .int .u8 0, .int .u8 0, .int .u8 0, .int .u8 0, .int .u8 0, .int .u8 0, .int .u8 0, .int .u8 0, .int .u8 0, .int .u8 0, .int .u8 0, .int .u8 0, .int .u8 0, .int .u8 0, .int .u8 0, .int .u8 0, .int .u8 0, .int .u8 0, .int .u8 0, .int .u8 0, .int .u8 0, .int .u8 0, .int .u8 0, .int .u8 0, .int .u8 0, .int .u8 0, .int .u8 0, .int .u8 0, .int .u8 0, .int .u8 0, .int .u8 0, .int .u8 0, .int .u8 0, .int .u8 0, .int .u8 0, .int .u8 0, .int .u8 0, .int .u8 0, .int .u8 0, .int .u8 0, .int .u8 0, .int .u8 0, .int .u8 0, .int .u8 0, .int .u8 0, .int .u8 0, .int .u8 0, .int .u8 0, .int .u8 0, .int .u8 0, .int .u8 0, .int .u8 0, .int .u8 0, .int .u8 0, .int .u8 0, .int .u8 0, .int .u8 0, .int .u8 0, .int .u8 0, .int .u8 0, .int .u8 0, .int .u8 0, .int .u8 0, .int .u8 0, .int .u8 0, .int .u8 0, .int .u8 0, .int .u8 0, .int .u8 0, .int .u8 0, .int .u8 0, .int .u8 0, .int .u8 0, .int .u8 0, .int .u8 0, .int .u8 0, .int .u8 0, .int .u8 0, .int .u8 0, .int .u8 0, .int .u8 0, .int .u8 0, .int .u8 0, .int .u8 0, .int .u8 0, .int .u8 0, .int .u8 0, .int .u8 0, .int .u8 0, .int .u8 0, .int .u8 0, .int .u8 0, .int .u8 0, .int .u8 0, .int .u8 0, .int .u8 0, .int .u8 0, .int .u8 0, .int .u8 0, .int .u8 0, .int .u8 0, .int .u8 0, .int .u8 0, .int .u8 0, .int .u8 0, .int .u8 0, .int .u8 0, .int .u8 0, .int .u8 0, .int .u8 0, .int .u8 0, .int .u8 0, .int .u8 0, .int .u8 0, .int .u8 0, .int .u8 0, .int .u8 0, .int .u8 0, .int .u8 0, .int .u8 0, .int .u8 0, .int .u8 0, .int .u8 0, .int .u8 0, .int .u8 0, .int .u8 0, .int .u8 0, .int .u8 0, .int .u8 0, .int .u8 0, .int .u8 0, .int .u8 0, .int .u8 0, .int .u8 0, .int .u8 0, .int .u8 0, .int .u8 0, .int .u8 0, .int .u8 0, .int .u8 0, .int .u8 0, .int .u8 0, .int .u8 0, .int .u8 0, .int .u8 0, .int .u8 0, .int .u8 0, .int .u8 0]) := by kernel_rfl
theorem i142 : (Tryz.prog.info? 142).map (fun i => (i.zero, i.size, i.bytes)) = some (some (.agg #[.int .u8 0, .int .u8 0, .int .u8 0, .int .u8 0, .int .u8 0, .int .u8 0, .int .u8 0, .int .u8 0, .int .u8 0, .int .u8 0, .int .u8 0, .int .u8 0, .int .u8 0, .int .u8 0, .int .u8 0, .int .u8 0, .int .u8 0, .int .u8 0, .int .u8 0, .int .u8 0, .int .u8 0, .int .u8 0, .int .u8 0, .int .u8 0, .int .u8 0, .int .u8 0, .int .u8 0, .int .u8 0, .int .u8 0, .int .u8 0, .int .u8 0, .int .u8 0, .int .u8 0, .int .u8 0, .int .u8 0, .int .u8 0, .int .u8 0, .int .u8 0, .int .u8 0, .int .u8 0, .int .u8 0, .int .u8 0, .int .u8 0, .int .u8 0, .int .u8 0, .int .u8 0, .int .u8 0, .int .u8 0, .int .u8 0, .int .u8 0, .int .u8 0, .int .u8 0, .int .u8 0, .int .u8 0, .int .u8 0, .int .u8 0, .int .u8 0, .int .u8 0, .int .u8 0, .int .u8 0, .int .u8 0, .int .u8 0, .int .u8 0, .int .u8 0, .int .u8 0, .int .u8 0, .int .u8 0, .int .u8 0, .int .u8 0, .int .u8 0, .int .u8 0, .int .u8 0, .int .u8 0, .int .u8 0, .int .u8 0, .int .u8 0, .int .u8 0, .int .u8 0, .int .u8 0, .int .u8 0, .int .u8 0, .int .u8 0, .int .u8 0, .int .u8 0, .int .u8 0, .int .u8 0, .int .u8 0, .int .u8 0, .int .u8 0, .int .u8 0, .int .u8 0, .int .u8 0, .int .u8 0, .int .u8 0, .int .u8 0, .int .u8 0, .int .u8 0, .int .u8 0, .int .u8 0, .int .u8 0, .int .u8 0, .int .u8 0, .int .u8 0, .int .u8 0, .int .u8 0, .int .u8 0, .int .u8 0, .int .u8 0, .int .u8 0, .int .u8 0, .int .u8 0, .int .u8 0, .int .u8 0, .int .u8 0, .int .u8 0, .int .u8 0, .int .u8 0, .int .u8 0, .int .u8 0, .int .u8 0, .int .u8 0, .int .u8 0, .int .u8 0, .int .u8 0, .int .u8 0, .int .u8 0, .int .u8 0, .int .u8 0, .int .u8 0, .int .u8 0, .int .u8 0, .int .u8 0, .int .u8 0, .int .u8 0, .int .u8 0, .int .u8 0, .int .u8 0, .int .u8 0, .int .u8 0, .int .u8 0, .int .u8 0, .int .u8 0, .int .u8 0, .int .u8 0, .int .u8 0, .int .u8 0, .int .u8 0, .int .u8 0, .int .u8 0, .int .u8 0, .int .u8 0, .int .u8 0, .int .u8 0, .int .u8 0, .int .u8 0, .int .u8 0, .int .u8 0, .int .u8 0, .int .u8 0, .int .u8 0, .int .u8 0, .int .u8 0, .int .u8 0, .int .u8 0, .int .u8 0, .int .u8 0, .int .u8 0, .int .u8 0, .int .u8 0, .int .u8 0, .int .u8 0, .int .u8 0, .int .u8 0, .int .u8 0, .int .u8 0, .int .u8 0, .int .u8 0, .int .u8 0, .int .u8 0, .int .u8 0, .int .u8 0, .int .u8 0, .int .u8 0, .int .u8 0, .int .u8 0, .int .u8 0, .int .u8 0, .int .u8 0, .int .u8 0, .int .u8 0, .int .u8 0, .int .u8 0, .int .u8 0, .int .u8 0, .int .u8 0, .int .u8 0, .int .u8 0, .int .u8 0, .int .u8 0, .int .u8 0, .int .u8 0, .int .u8 0, .int .u8 0, .int .u8 0, .int .u8 0, .int .u8 0, .int .u8 0, .int .u8 0, .int .u8 0, .int .u8 0, .int .u8 0, .int .u8 0, .int .u8 0, .int .u8 0, .int .u8 0, .int .u8 0, .int .u8 0, .int .u8 0, .int .u8 0, .int .u8 0, .int .u8 0, .int .u8 0, .int .u8 0, .int .u8 0, .int .u8 0, .int .u8 0, .int .u8 0, .int .u8 0, .int .u8 0, .int .u8 0, .int .u8 0, .int .u8 0, .int .u8 0, .int .u8 0, .int .u8 0, .int .u8 0, .int .u8 0, .int .u8 0, .int .u8 0, .int .u8 0, .int .u8 0, .int .u8 0, .int .u8 0, .int .u8 0, .int .u8 0, .int .u8 0, .int .u8 0, .int .u8 0, .int .u8 0, .int .u8 0, .int .u8 0, .int .u8 0, .int .u8 0, .int .u8 0, .int .u8 0, .int .u8 0]), 256, 256) := by kernel_rfl
theorem s143 : (Tryz.prog.info? 143).map (·.size) = some 2 := by kernel_rfl
theorem a143 : agg Tryz.prog 143 = true := by kernel_rfl
theorem z143 : (Tryz.prog.info? 143).bind (·.zero) = some (.agg #[.int .u8 0, .int .u8 0]) := by kernel_rfl
theorem i143 : (Tryz.prog.info? 143).map (fun i => (i.zero, i.size, i.bytes)) = some (some (.agg #[.int .u8 0, .int .u8 0]), 2, 2) := by kernel_rfl
theorem p143 : placesOf Tryz.prog 143 = some [(0, 1), (1, 1)] := by kernel_rfl
theorem s144 : (Tryz.prog.info? 144).map (·.size) = some 2 := by kernel_rfl
theorem a144 : agg Tryz.prog 144 = true := by kernel_rfl
theorem z144 : (Tryz.prog.info? 144).bind (·.zero) = some (.agg #[.int .u8 0, .int .u8 0]) := by kernel_rfl
theorem i144 : (Tryz.prog.info? 144).map (fun i => (i.zero, i.size, i.bytes)) = some (some (.agg #[.int .u8 0, .int .u8 0]), 2, 2) := by kernel_rfl
theorem p144 : placesOf Tryz.prog 144 = some [(0, 1), (1, 1)] := by kernel_rfl
theorem s145 : (Tryz.prog.info? 145).map (·.size) = some 32 := by kernel_rfl
theorem a145 : agg Tryz.prog 145 = true := by kernel_rfl
theorem z145 : (Tryz.prog.info? 145).bind (·.zero) = some (.agg #[.int .u8 0, .int .u8 0, .int .u8 0, .int .u8 0, .int .u8 0, .int .u8 0, .int .u8 0, .int .u8 0, .int .u8 0, .int .u8 0, .int .u8 0, .int .u8 0, .int .u8 0, .int .u8 0, .int .u8 0, .int .u8 0, .int .u8 0, .int .u8 0, .int .u8 0, .int .u8 0, .int .u8 0, .int .u8 0, .int .u8 0, .int .u8 0, .int .u8 0, .int .u8 0, .int .u8 0, .int .u8 0, .int .u8 0, .int .u8 0, .int .u8 0, .int .u8 0]) := by kernel_rfl
theorem i145 : (Tryz.prog.info? 145).map (fun i => (i.zero, i.size, i.bytes)) = some (some (.agg #[.int .u8 0, .int .u8 0, .int .u8 0, .int .u8 0, .int .u8 0, .int .u8 0, .int .u8 0, .int .u8 0, .int .u8 0, .int .u8 0, .int .u8 0, .int .u8 0, .int .u8 0, .int .u8 0, .int .u8 0, .int .u8 0, .int .u8 0, .int .u8 0, .int .u8 0, .int .u8 0, .int .u8 0, .int .u8 0, .int .u8 0, .int .u8 0, .int .u8 0, .int .u8 0, .int .u8 0, .int .u8 0, .int .u8 0, .int .u8 0, .int .u8 0, .int .u8 0]), 32, 32) := by kernel_rfl
theorem s146 : (Tryz.prog.info? 146).map (·.size) = some 1 := by kernel_rfl
theorem o146 : one Tryz.prog 146 = true := by kernel_rfl
theorem z146 : (Tryz.prog.info? 146).bind (·.zero) = some (.nilFunc) := by kernel_rfl
theorem i146 : (Tryz.prog.info? 146).map (fun i => (i.zero, i.size, i.bytes)) = some (some (.nilFunc), 1, 8) := by kernel_rfl
theorem s147 : (Tryz.prog.info? 147).map (·.size) = some 1 := by kernel_rfl
theorem o147 : one Tryz.prog 147 = true := by kernel_rfl
theorem s148 : (Tryz.prog.info? 148).map (·.size) = some 1 := by kernel_rfl
theorem o148 : one Tryz.prog 148 = true := by kernel_rfl
theorem z148 : (Tryz.prog.info? 148).bind (·.zero) = some (.nilFunc) := by kernel_rfl
theorem i148 : (Tryz.prog.info? 148).map (fun i => (i.zero, i.size, i.bytes)) = some (some (.nilFunc), 1, 8) := by kernel_rfl
theorem s149 : (Tryz.prog.info? 149).map (·.size) = some 1 := by kernel_rfl
theorem o149 : one Tryz.prog 149 = true := by kernel_rfl
theorem z149 : (Tryz.prog.info? 149).bind (·.zero) = some (.map none) := by kernel_rfl
theorem i149 : (Tryz.prog.info? 149).map (fun i => (i.zero, i.size, i.bytes)) = some (some (.map none), 1, 8) := by kernel_rfl
theorem s150 : (Tryz.prog.info? 150).map (·.size) = some 1 := by kernel_rfl
theorem o150 : one Tryz.prog 150 = true := by kernel_rfl
theorem z150 : (Tryz.prog.info? 150).bind (·.zero) = some (.nilFunc) := by kernel_rfl
theorem i150 : (Tryz.prog.info? 150).map (fun i => (i.zero, i.size, i.bytes)) = some (some (.nilFunc), 1, 8) := by kernel_rfl
theorem s151 : (Tryz.prog.info? 151).map (·.size) = some 1 := by kernel_rfl
theorem o151 : one Tryz.prog 151 = true := by kernel_rfl
theorem z151 : (Tryz.prog.info? 151).bind (·.zero) = some (.pointer none) := by kernel_rfl
theorem i151 : (Tryz.prog.info? 151).map (fun i => (i.zero, i.size, i.bytes)) = some (some (.pointer none), 1, 8) := by kernel_rfl
theorem s152 : (Tryz.prog.info? 152).map (·.size) = some 1 := by kernel_rfl
theorem o152 : one Tryz.prog 152 = true := by kernel_rfl
theorem z152 : (Tryz.prog.info? 152).bind (·.zero) = some (.nilFunc) := by kernel_rfl
theorem i152 : (Tryz.prog.info? 152).map (fun i => (i.zero, i.size, i.bytes)) = some (some (.nilFunc), 1, 8) := by kernel_rfl
theorem s153 : (Tryz.prog.info? 153).map (·.size) = some 1 := by kernel_rfl
theorem o153 : one Tryz.prog 153 = true := by kernel_rfl
theorem z153 : (Tryz.prog.info? 153).bind (·.zero) = some (.nilFunc) := by kernel_rfl
theorem i153 : (Tryz.prog.info? 153).map (fun i => (i.zero, i.size, i.bytes)) = some (some (.nilFunc), 1, 8) := by kernel_rfl
theorem s154 : (Tryz.prog.info? 154).map (·.size) = some 1 := by kernel_rfl
theorem o154 : one Tryz.prog 154 = true := by kernel_rfl
theorem z154 : (Tryz.prog.info? 154).bind (·.zero) = some (.pointer none) := by kernel_rfl
theorem i154 : (Tryz.prog.info? 154).map (fun i => (i.zero, i.size, i.bytes)) = some (some (.pointer none), 1, 8) := by kernel_rfl
theorem s155 : (Tryz.prog.info? 155).map (·.size) = some 1 := by kernel_rfl
theorem o155 : one Tryz.prog 155 = true := by kernel_rfl
theorem s156 : (Tryz.prog.info? 156).map (·.size) = some 1 := by kernel_rfl
theorem o156 : one Tryz.prog 156 = true := by kernel_rfl
theorem z156 : (Tryz.prog.info? 156).bind (·.zero) = some (.nilFunc) := by kernel_rfl
theorem i156 : (Tryz.prog.info? 156).map (fun i => (i.zero, i.size, i.bytes)) = some (some (.nilFunc), 1, 8) := by kernel_rfl
theorem s157 : (Tryz.prog.info? 157).map (·.size) = some 1 := by kernel_rfl
theorem o157 : one Tryz.prog 157 = true := by kernel_rfl
theorem z157 : (Tryz.prog.info? 157).bind (·.zero) = some (.nilFunc) := by kernel_rfl
theorem i157 : (Tryz.prog.info? 157).map (fun i => (i.zero, i.size, i.bytes)) = some (some (.nilFunc), 1, 8) := by kernel_rfl
theorem s158 : (Tryz.prog.info? 158).map (·.size) = some 1 := by kernel_rfl
theorem o158 : one Tryz.prog 158 = true := by kernel_rfl
theorem z158 : (Tryz.prog.info? 158).bind (·.zero) = some (.nilFunc) := by kernel_rfl
theorem i158 : (Tryz.prog.info? 158).map (fun i => (i.zero, i.size, i.bytes)) = some (some (.nilFunc), 1, 8) := by kernel_rfl
theorem s159 : (Tryz.prog.info? 159).map (·.size) = some 1 := by kernel_rfl
theorem o159 : one Tryz.prog 159 = true := by kernel_rfl
theorem z159 : (Tryz.prog.info? 159).bind (·.zero) = some (.nilFunc) := by kernel_rfl
theorem i159 : (Tryz.prog.info? 159).map (fun i => (i.zero, i.size, i.bytes)) = some (some (.nilFunc), 1, 8) := by kernel_rfl
theorem s160 : (Tryz.prog.info? 160).map (·.size) = some 1 := by kernel_rfl
theorem o160 : one Tryz.prog 160 = true := by kernel_rfl
theorem z160 : (Tryz.prog.info? 160).bind (·.zero) = some (.nilFunc) := by kernel_rfl
theorem i160 : (Tryz.prog.info? 160).map (fun i => (i.zero, i.size, i.bytes)) = some (some (.nilFunc), 1, 8) := by kernel_rfl
theorem s161 : (Tryz.prog.info? 161).map (·.size) = some 32 := by kernel_rfl
theorem a161 : agg Tryz.prog 161 = true := by kernel_rfl
theorem z161 : (Tryz.prog.info? 161).bind (·.zero) = some (.agg #[.int .u8 0, .int .u8 0, .int .u8 0, .int .u8 0, .int .u8 0, .int .u8 0, .int .u8 0, .int .u8 0, .int .u8 0, .int .u8 0, .int .u8 0, .int .u8 0, .int .u8 0, .int .u8 0, .int .u8 0, .int .u8 0, .int .u8 0, .int .u8 0, .int .u8 0, .int .u8 0, .int .u8 0, .int .u8 0, .int .u8 0, .int .u8 0, .int .u8 0, .int .u8 0, .int .u8 0, .int .u8 0, .int .u8 0, .int .u8 0, .int .u8 0, .int .u8 0]) := by kernel_rfl
theorem i161 : (Tryz.prog.info? 161).map (fun i => (i.zero, i.size, i.bytes)) = some (some (.agg #[.int .u8 0, .int .u8 0, .int .u8 0, .int .u8 0, .int .u8 0, .int .u8 0, .int .u8 0, .int .u8 0, .int .u8 0, .int .u8 0, .int .u8 0, .int .u8 0, .int .u8 0, .int .u8 0, .int .u8 0, .int .u8 0, .int .u8 0, .int .u8 0, .int .u8 0, .int .u8 0, .int .u8 0, .int .u8 0, .int .u8 0, .int .u8 0, .int .u8 0, .int .u8 0, .int .u8 0, .int .u8 0, .int .u8 0, .int .u8 0, .int .u8 0, .int .u8 0]), 32, 32) := by kernel_rfl
theorem s162 : (Tryz.prog.info? 162).map (·.size) = some 64 := by kernel_rfl
theorem a162 : agg Tryz.prog 162 = true := by kernel_rfl
theorem z162 : (Tryz.prog.info? 162).bind (·.zero) = some (.agg #[.int .u8 0, .int .u8 0, .int .u8 0, .int .u8 0, .int .u8 0, .int .u8 0, .int .u8 0, .int .u8 0, .int .u8 0, .int .u8 0, .int .u8 0, .int .u8 0, .int .u8 0, .int .u8 0, .int .u8 0, .int .u8 0, .int .u8 0, .int .u8 0, .int .u8 0, .int .u8 0, .int .u8 0, .int .u8 0, .int .u8 0, .int .u8 0, .int .u8 0, .int .u8 0, .int .u8 0, .int .u8 0, .int .u8 0, .int .u8 0, .int .u8 0, .int .u8 0, .int .u8 0, .int .u8 0, .int .u8 0, .int .u8 0, .int .u8 0, .int .u8 0, .int .u8 0, .int .u8 0, .int .u8 0, .int .u8 0, .int .u8 0, .int .u8 0, .int .u8 0, .int .u8 0, .int .u8 0, .int .u8 0, .int .u8 0, .int .u8 0, .int .u8 0, .int .u8 0, .int .u8 0, .int .u8 0, .int .u8 0, .int .u8 0, .int .u8 0, .int .u8 0, .int .u8 0, .int .u8 0, .int .u8 0, .int .u8 0, .int .u8 0, .int .u8 0]) := by kernel_rfl
theorem i162 : (Tryz.prog.info? 162).map (fun i => (i.zero, i.size, i.bytes)) = some (some (.agg #[.int .u8 0, .int .u8 0, .int .u8 0, .int .u8 0, .int .u8 0, .int .u8 0, .int .u8 0, .int .u8 0, .int .u8 0, .int .u8 0, .int .u8 0, .int .u8 0, .int .u8 0, .int .u8 0, .int .u8 0, .int .u8 0, .int .u8 0, .int .u8 0, .int .u8 0, .int .u8 0, .int .u8 0, .int .u8 0, .int .u8 0, .int .u8 0, .int .u8 0, .int .u8 0, .int .u8 0, .int .u8 0, .int .u8 0, .int .u8 0, .int .u8 0, .int .u8 0, .int .u8 0, .int .u8 0, .int .u8 0, .int .u8 0, .int .u8 0, .int .u8 0, .int .u8 0, .int .u8 0, .int .u8 0, .int .u8 0, .int .u8 0, .int .u8 0, .int .u8 0, .int .u8 0, .int .u8 0, .int .u8 0, .int .u8 0, .int .u8 0, .int .u8 0, .int .u8 0, .int .u8 0, .int .u8 0, .int .u8 0, .int .u8 0, .int .u8 0, .int .u8 0, .int .u8 0, .int .u8 0, .int .u8 0, .int .u8 0, .int .u8 0, .int .u8 0]), 64, 64) := by kernel_rfl
theorem s163 : (Tryz.prog.info? 163).map (·.size) = some 1 := by kernel_rfl
theorem o163 : one Tryz.prog 163 = true := by kernel_rfl
theorem z163 : (Tryz.prog.info? 163).bind (·.zero) = some (.nilFunc) := by kernel_rfl
theorem i163 : (Tryz.prog.info? 163).map (fun i => (i.zero, i.size, i.bytes)) = some (some (.nilFunc), 1, 8) := by kernel_rfl
theorem s164 : (Tryz.prog.info? 164).map (·.size) = some 1 := by kernel_rfl
theorem o164 : one Tryz.prog 164 = true := by kernel_rfl
theorem z164 : (Tryz.prog.info? 164).bind (·.zero) = some (.nilFunc) := by kernel_rfl
theorem i164 : (Tryz.prog.info? 164).map (fun i => (i.zero, i.size, i.bytes)) = some (some (.nilFunc), 1, 8) := by kernel_rfl
theorem s165 : (Tryz.prog.info? 165).map (·.size) = some 2 := by kernel_rfl
theorem a165 : agg Tryz.prog 165 = true := by kernel_rfl
theorem z165 : (Tryz.prog.info? 165).bind (·.zero) = some (.agg #[.string ⟨#[]⟩, .string ⟨#[]⟩]) := by kernel_rfl
theorem i165 : (Tryz.prog.info? 165).map (fun i => (i.zero, i.size, i.bytes)) = some (some (.agg #[.string ⟨#[]⟩, .string ⟨#[]⟩]), 2, 32) := by kernel_rfl
theorem p165 : placesOf Tryz.prog 165 = some [(0, 1), (1, 1)] := by kernel_rfl
theorem s166 : (Tryz.prog.info? 166).map (·.size) = some 2 := by kernel_rfl
theorem a166 : agg Tryz.prog 166 = true := by kernel_rfl
theorem z166 : (Tryz.prog.info? 166).bind (·.zero) = some (.agg #[.string ⟨#[]⟩, .string ⟨#[]⟩]) := by kernel_rfl
theorem i166 : (Tryz.prog.info? 166).map (fun i => (i.zero, i.size, i.bytes)) = some (some (.agg #[.string ⟨#[]⟩, .string ⟨#[]⟩]), 2, 32) := by kernel_rfl
theorem p166 : placesOf Tryz.prog 166 = some [(0, 1), (1, 1)] := by kernel_rfl
theorem s167 : (Tryz.prog.info? 167).map (·.size) = some 1 := by kernel_rfl
theorem o167 : one Tryz.prog 167 = true := by kernel_rfl
theorem z167 : (Tryz.prog.info? 167).bind (·.zero) = some (.nilFunc) := by kernel_rfl
theorem i167 : (Tryz.prog.info? 167).map (fun i => (i.zero, i.size, i.bytes)) = some (some (.nilFunc), 1, 8) := by kernel_rfl
theorem s168 : (Tryz.prog.info? 168).map (·.size) = some 1 := by kernel_rfl
theorem o168 : one Tryz.prog 168 = true := by kernel_rfl
theorem z168 : (Tryz.prog.info? 168).bind (·.zero) = some (.nilFunc) := by kernel_rfl
theorem i168 : (Tryz.prog.info? 168).map (fun i => (i.zero, i.size, i.bytes)) = some (some (.nilFunc), 1, 8) := by kernel_rfl
theorem s169 : (Tryz.prog.info? 169).map (·.size) = some 2 := by kernel_rfl
theorem a169 : agg Tryz.prog 169 = true := by kernel_rfl
theorem z169 : (Tryz.prog.info? 169).bind (·.zero) = some (.agg #[.string ⟨#[]⟩, .int .i64 0]) := by kernel_rfl
theorem i169 : (Tryz.prog.info? 169).map (fun i => (i.zero, i.size, i.bytes)) = some (some (.agg #[.string ⟨#[]⟩, .int .i64 0]), 2, 24) := by kernel_rfl
theorem p169 : placesOf Tryz.prog 169 = some [(0, 1), (1, 1)] := by kernel_rfl
theorem s170 : (Tryz.prog.info? 170).map (·.size) = some 2 := by kernel_rfl
theorem a170 : agg Tryz.prog 170 = true := by kernel_rfl
theorem z170 : (Tryz.prog.info? 170).bind (·.zero) = some (.agg #[.string ⟨#[]⟩, .int .i64 0]) := by kernel_rfl
theorem i170 : (Tryz.prog.info? 170).map (fun i => (i.zero, i.size, i.bytes)) = some (some (.agg #[.string ⟨#[]⟩, .int .i64 0]), 2, 24) := by kernel_rfl
theorem p170 : placesOf Tryz.prog 170 = some [(0, 1), (1, 1)] := by kernel_rfl
theorem s171 : (Tryz.prog.info? 171).map (·.size) = some 1 := by kernel_rfl
theorem o171 : one Tryz.prog 171 = true := by kernel_rfl
theorem z171 : (Tryz.prog.info? 171).bind (·.zero) = some (.nilFunc) := by kernel_rfl
theorem i171 : (Tryz.prog.info? 171).map (fun i => (i.zero, i.size, i.bytes)) = some (some (.nilFunc), 1, 8) := by kernel_rfl
theorem s172 : (Tryz.prog.info? 172).map (·.size) = some 1 := by kernel_rfl
theorem o172 : one Tryz.prog 172 = true := by kernel_rfl
theorem z172 : (Tryz.prog.info? 172).bind (·.zero) = some (.nilFunc) := by kernel_rfl
theorem i172 : (Tryz.prog.info? 172).map (fun i => (i.zero, i.size, i.bytes)) = some (some (.nilFunc), 1, 8) := by kernel_rfl
theorem s173 : (Tryz.prog.info? 173).map (·.size) = some 1 := by kernel_rfl
theorem o173 : one Tryz.prog 173 = true := by kernel_rfl
theorem z173 : (Tryz.prog.info? 173).bind (·.zero) = some (.nilFunc) := by kernel_rfl
theorem i173 : (Tryz.prog.info? 173).map (fun i => (i.zero, i.size, i.bytes)) = some (some (.nilFunc), 1, 8) := by kernel_rfl
theorem s174 : (Tryz.prog.info? 174).map (·.size) = some 1 := by kernel_rfl
theorem o174 : one Tryz.prog 174 = true := by kernel_rfl
theorem z174 : (Tryz.prog.info? 174).bind (·.zero) = some (.nilFunc) := by kernel_rfl
theorem i174 : (Tryz.prog.info? 174).map (fun i => (i.zero, i.size, i.bytes)) = some (some (.nilFunc), 1, 8) := by kernel_rfl
theorem s175 : (Tryz.prog.info? 175).map (·.size) = some 1 := by kernel_rfl
theorem o175 : one Tryz.prog 175 = true := by kernel_rfl
theorem z175 : (Tryz.prog.info? 175).bind (·.zero) = some (.nilFunc) := by kernel_rfl
theorem i175 : (Tryz.prog.info? 175).map (fun i => (i.zero, i.size, i.bytes)) = some (some (.nilFunc), 1, 8) := by kernel_rfl
theorem s176 : (Tryz.prog.info? 176).map (·.size) = some 1 := by kernel_rfl
theorem o176 : one Tryz.prog 176 = true := by kernel_rfl
theorem z176 : (Tryz.prog.info? 176).bind (·.zero) = some (.nilFunc) := by kernel_rfl
theorem i176 : (Tryz.prog.info? 176).map (fun i => (i.zero, i.size, i.bytes)) = some (some (.nilFunc), 1, 8) := by kernel_rfl
theorem s177 : (Tryz.prog.info? 177).map (·.size) = some 1 := by kernel_rfl
theorem o177 : one Tryz.prog 177 = true := by kernel_rfl
theorem z177 : (Tryz.prog.info? 177).bind (·.zero) = some (.nilFunc) := by kernel_rfl
theorem i177 : (Tryz.prog.info? 177).map (fun i => (i.zero, i.size, i.bytes)) = some (some (.nilFunc), 1, 8) := by kernel_rfl
theorem s178 : (Tryz.prog.info? 178).map (·.size) = some 1 := by kernel_rfl
theorem o178 : one Tryz.prog 178 = true := by kernel_rfl
theorem z178 : (Tryz.prog.info? 178).bind (·.zero) = some (.nilFunc) := by kernel_rfl
theorem i178 : (Tryz.prog.info? 178).map (fun i => (i.zero, i.size, i.bytes)) = some (some (.nilFunc), 1, 8) := by kernel_rfl
theorem s179 : (Tryz.prog.info? 179).map (·.size) = some 1 := by kernel_rfl
theorem o179 : one Tryz.prog 179 = true := by kernel_rfl
theorem z179 : (Tryz.prog.info? 179).bind (·.zero) = some (.nilFunc) := by kernel_rfl
theorem i179 : (Tryz.prog.info? 179).map (fun i => (i.zero, i.size, i.bytes)) = some (some (.nilFunc), 1, 8) := by kernel_rfl
theorem s180 : (Tryz.prog.info? 180).map (·.size) = some 1 := by kernel_rfl
theorem o180 : one Tryz.prog 180 = true := by kernel_rfl
theorem z180 : (Tryz.prog.info? 180).bind (·.zero) = some (.nilFunc) := by kernel_rfl
theorem i180 : (Tryz.prog.info? 180).map (fun i => (i.zero, i.size, i.bytes)) = some (some (.nilFunc), 1, 8) := by kernel_rfl
theorem s181 : (Tryz.prog.info? 181).map (·.size) = some 1 := by kernel_rfl
theorem o181 : one Tryz.prog 181 = true := by kernel_rfl
theorem z181 : (Tryz.prog.info? 181).bind (·.zero) = some (.nilFunc) := by kernel_rfl
theorem i181 : (Tryz.prog.info? 181).map (fun i => (i.zero, i.size, i.bytes)) = some (some (.nilFunc), 1, 8) := by kernel_rfl
theorem s182 : (Tryz.prog.info? 182).map (·.size) = some 1 := by kernel_rfl
theorem o182 : one Tryz.prog 182 = true := by kernel_rfl
theorem z182 : (Tryz.prog.info? 182).bind (·.zero) = some (.nilFunc) := by kernel_rfl
theorem i182 : (Tryz.prog.info? 182).map (fun i => (i.zero, i.size, i.bytes)) = some (some (.nilFunc), 1, 8) := by kernel_rfl
theorem s183 : (Tryz.prog.info? 183).map (·.size) = some 1 := by kernel_rfl
theorem o183 : one Tryz.prog 183 = true := by kernel_rfl
theorem z183 : (Tryz.prog.info? 183).bind (·.zero) = some (.nilFunc) := by kernel_rfl
theorem i183 : (Tryz.prog.info? 183).map (fun i => (i.zero, i.size, i.bytes)) = some (some (.nilFunc), 1, 8) := by kernel_rfl
theorem s184 : (Tryz.prog.info? 184).map (·.size) = some 4 := by kernel_rfl
theorem a184 : agg Tryz.prog 184 = true := by kernel_rfl
theorem z184 : (Tryz.prog.info? 184).bind (·.zero) = some (.agg #[.pointer none, .pointer none, .pointer none, .string ⟨#[]⟩]) := by kernel_rfl
theorem i184 : (Tryz.prog.info? 184).map (fun i => (i.zero, i.size, i.bytes)) = some (some (.agg #[.pointer none, .pointer none, .pointer none, .string ⟨#[]⟩]), 4, 40) := by kernel_rfl
theorem p184 : placesOf Tryz.prog 184 = some [(0, 1), (1, 1), (2, 1), (3, 1)] := by kernel_rfl
theorem s185 : (Tryz.prog.info? 185).map (·.size) = some 4 := by kernel_rfl
theorem a185 : agg Tryz.prog 185 = true := by kernel_rfl
theorem z185 : (Tryz.prog.info? 185).bind (·.zero) = some (.agg #[.pointer none, .pointer none, .pointer none, .string ⟨#[]⟩]) := by kernel_rfl
theorem i185 : (Tryz.prog.info? 185).map (fun i => (i.zero, i.size, i.bytes)) = some (some (.agg #[.pointer none, .pointer none, .pointer none, .string ⟨#[]⟩]), 4, 40) := by kernel_rfl
theorem p185 : placesOf Tryz.prog 185 = some [(0, 1), (1, 1), (2, 1), (3, 1)] := by kernel_rfl
theorem s186 : (Tryz.prog.info? 186).map (·.size) = some 0 := by kernel_rfl
theorem a186 : agg Tryz.prog 186 = true := by kernel_rfl
theorem s187 : (Tryz.prog.info? 187).map (·.size) = some 0 := by kernel_rfl
theorem a187 : agg Tryz.prog 187 = true := by kernel_rfl
theorem p187 : placesOf Tryz.prog 187 = some [(0, 0)] := by kernel_rfl
theorem s188 : (Tryz.prog.info? 188).map (·.size) = some 0 := by kernel_rfl
theorem a188 : agg Tryz.prog 188 = true := by kernel_rfl
theorem p188 : placesOf Tryz.prog 188 = some [(0, 0)] := by kernel_rfl
theorem s189 : (Tryz.prog.info? 189).map (·.size) = some 1 := by kernel_rfl
theorem o189 : one Tryz.prog 189 = true := by kernel_rfl
theorem z189 : (Tryz.prog.info? 189).bind (·.zero) = some (.nilFunc) := by kernel_rfl
theorem i189 : (Tryz.prog.info? 189).map (fun i => (i.zero, i.size, i.bytes)) = some (some (.nilFunc), 1, 8) := by kernel_rfl
theorem s190 : (Tryz.prog.info? 190).map (·.size) = some 1 := by kernel_rfl
theorem o190 : one Tryz.prog 190 = true := by kernel_rfl
theorem z190 : (Tryz.prog.info? 190).bind (·.zero) = some (.int .u8 0) := by kernel_rfl
theorem i190 : (Tryz.prog.info? 190).map (fun i => (i.zero, i.size, i.bytes)) = some (some (.int .u8 0), 1, 1) := by kernel_rfl
theorem s191 : (Tryz.prog.info? 191).map (·.size) = some 1 := by kernel_rfl
theorem o191 : one Tryz.prog 191 = true := by kernel_rfl
theorem z191 : (Tryz.prog.info? 191).bind (·.zero) = some (.int .u8 0) := by kernel_rfl
theorem i191 : (Tryz.prog.info? 191).map (fun i => (i.zero, i.size, i.bytes)) = some (some (.int .u8 0), 1, 1) := by kernel_rfl
theorem s192 : (Tryz.prog.info? 192).map (·.size) = some 1 := by kernel_rfl
theorem o192 : one Tryz.prog 192 = true := by kernel_rfl
theorem z192 : (Tryz.prog.info? 192).bind (·.zero) = some (.nilFunc) := by kernel_rfl
theorem i192 : (Tryz.prog.info? 192).map (fun i => (i.zero, i.size, i.bytes)) = some (some (.nilFunc), 1, 8) := by kernel_rfl
theorem s193 : (Tryz.prog.info? 193).map (·.size) = some 1 := by kernel_rfl
theorem o193 : one Tryz.prog 193 = true := by kernel_rfl
theorem z193 : (Tryz.prog.info? 193).bind (·.zero) = some (.pointer none) := by kernel_rfl
theorem i193 : (Tryz.prog.info? 193).map (fun i => (i.zero, i.size, i.bytes)) = some (some (.pointer none), 1, 8) := by kernel_rfl
theorem s194 : (Tryz.prog.info? 194).map (·.size) = some 1 := by kernel_rfl
theorem o194 : one Tryz.prog 194 = true := by kernel_rfl
theorem z194 : (Tryz.prog.info? 194).bind (·.zero) = some (.int .i32 0) := by kernel_rfl
theorem i194 : (Tryz.prog.info? 194).map (fun i => (i.zero, i.size, i.bytes)) = some (some (.int .i32 0), 1, 4) := by kernel_rfl
theorem s195 : (Tryz.prog.info? 195).map (·.size) = some 1 := by kernel_rfl
theorem o195 : one Tryz.prog 195 = true := by kernel_rfl
theorem z195 : (Tryz.prog.info? 195).bind (·.zero) = some (.int .i32 0) := by kernel_rfl
theorem i195 : (Tryz.prog.info? 195).map (fun i => (i.zero, i.size, i.bytes)) = some (some (.int .i32 0), 1, 4) := by kernel_rfl
theorem s196 : (Tryz.prog.info? 196).map (·.size) = some 11 := by kernel_rfl
theorem a196 : agg Tryz.prog 196 = true := by kernel_rfl
theorem z196 : (Tryz.prog.info? 196).bind (·.zero) = some (.agg #[.int .u64 0, .int .u64 0, .int .u32 0, .int .u8 0, .int .u8 0, .int .u8 0, .int .u8 0, .nilFunc, .pointer none, .int .i32 0, .int .i32 0]) := by kernel_rfl
theorem i196 : (Tryz.prog.info? 196).map (fun i => (i.zero, i.size, i.bytes)) = some (some (.agg #[.int .u64 0, .int .u64 0, .int .u32 0, .int .u8 0, .int .u8 0, .int .u8 0, .int .u8 0, .nilFunc, .pointer none, .int .i32 0, .int .i32 0]), 11, 48) := by kernel_rfl
theorem p196 : placesOf Tryz.prog 196 = some [(0, 1), (1, 1), (2, 1), (3, 1), (4, 1), (5, 1), (6, 1), (7, 1), (8, 1), (9, 1), (10, 1)] := by kernel_rfl
theorem s197 : (Tryz.prog.info? 197).map (·.size) = some 11 := by kernel_rfl
theorem a197 : agg Tryz.prog 197 = true := by kernel_rfl
theorem z197 : (Tryz.prog.info? 197).bind (·.zero) = some (.agg #[.int .u64 0, .int .u64 0, .int .u32 0, .int .u8 0, .int .u8 0, .int .u8 0, .int .u8 0, .nilFunc, .pointer none, .int .i32 0, .int .i32 0]) := by kernel_rfl
theorem i197 : (Tryz.prog.info? 197).map (fun i => (i.zero, i.size, i.bytes)) = some (some (.agg #[.int .u64 0, .int .u64 0, .int .u32 0, .int .u8 0, .int .u8 0, .int .u8 0, .int .u8 0, .nilFunc, .pointer none, .int .i32 0, .int .i32 0]), 11, 48) := by kernel_rfl
theorem p197 : placesOf Tryz.prog 197 = some [(0, 1), (1, 1), (2, 1), (3, 1), (4, 1), (5, 1), (6, 1), (7, 1), (8, 1), (9, 1), (10, 1)] := by kernel_rfl
theorem s198 : (Tryz.prog.info? 198).map (·.size) = some 1 := by kernel_rfl
theorem o198 : one Tryz.prog 198 = true := by kernel_rfl
theorem z198 : (Tryz.prog.info? 198).bind (·.zero) = some (.nilFunc) := by kernel_rfl
theorem i198 : (Tryz.prog.info? 198).map (fun i => (i.zero, i.size, i.bytes)) = some (some (.nilFunc), 1, 8) := by kernel_rfl
theorem s199 : (Tryz.prog.info? 199).map (·.size) = some 1 := by kernel_rfl
theorem o199 : one Tryz.prog 199 = true := by kernel_rfl
theorem z199 : (Tryz.prog.info? 199).bind (·.zero) = some (.nilFunc) := by kernel_rfl
theorem i199 : (Tryz.prog.info? 199).map (fun i => (i.zero, i.size, i.bytes)) = some (some (.nilFunc), 1, 8) := by kernel_rfl
theorem s200 : (Tryz.prog.info? 200).map (·.size) = some 1 := by kernel_rfl
theorem o200 : one Tryz.prog 200 = true := by kernel_rfl
theorem z200 : (Tryz.prog.info? 200).bind (·.zero) = some (.pointer none) := by kernel_rfl
theorem i200 : (Tryz.prog.info? 200).map (fun i => (i.zero, i.size, i.bytes)) = some (some (.pointer none), 1, 8) := by kernel_rfl
theorem s201 : (Tryz.prog.info? 201).map (·.size) = some 1 := by kernel_rfl
theorem o201 : one Tryz.prog 201 = true := by kernel_rfl
theorem z201 : (Tryz.prog.info? 201).bind (·.zero) = some (.slice none 0 0) := by kernel_rfl
theorem i201 : (Tryz.prog.info? 201).map (fun i => (i.zero, i.size, i.bytes)) = some (some (.slice none 0 0), 1, 24) := by kernel_rfl
theorem s202 : (Tryz.prog.info? 202).map (·.size) = some 8 := by kernel_rfl
theorem a202 : agg Tryz.prog 202 = true := by kernel_rfl
theorem z202 : (Tryz.prog.info? 202).bind (·.zero) = some (.agg #[.int .i64 0, .int .i64 0, .string ⟨#[]⟩, .string ⟨#[]⟩, .slice none 0 0, .slice none 0 0, .slice none 0 0, .slice none 0 0]) := by kernel_rfl
theorem i202 : (Tryz.prog.info? 202).map (fun i => (i.zero, i.size, i.bytes)) = some (some (.agg #[.int .i64 0, .int .i64 0, .string ⟨#[]⟩, .string ⟨#[]⟩, .slice none 0 0, .slice none 0 0, .slice none 0 0, .slice none 0 0]), 8, 144) := by kernel_rfl
theorem p202 : placesOf Tryz.prog 202 = some [(0, 1), (1, 1), (2, 1), (3, 1), (4, 1), (5, 1), (6, 1), (7, 1)] := by kernel_rfl
theorem s203 : (Tryz.prog.info? 203).map (·.size) = some 8 := by kernel_rfl
theorem a203 : agg Tryz.prog 203 = true := by kernel_rfl
theorem z203 : (Tryz.prog.info? 203).bind (·.zero) = some (.agg #[.int .i64 0, .int .i64 0, .string ⟨#[]⟩, .string ⟨#[]⟩, .slice none 0 0, .slice none 0 0, .slice none 0 0, .slice none 0 0]) := by kernel_rfl
theorem i203 : (Tryz.prog.info? 203).map (fun i => (i.zero, i.size, i.bytes)) = some (some (.agg #[.int .i64 0, .int .i64 0, .string ⟨#[]⟩, .string ⟨#[]⟩, .slice none 0 0, .slice none 0 0, .slice none 0 0, .slice none 0 0]), 8, 144) := by kernel_rfl
theorem p203 : placesOf Tryz.prog 203 = some [(0, 1), (1, 1), (2, 1), (3, 1), (4, 1), (5, 1), (6, 1), (7, 1)] := by kernel_rfl
theorem hmixed : Tryz.prog.follows .mixedOrders = true := by kernel_rfl
theorem e3 : enters Tryz.prog 3 = true := by kernel_rfl
theorem e4 : enters Tryz.prog 4 = true := by kernel_rfl
theorem e5 : enters Tryz.prog 5 = true := by kernel_rfl
theorem e6 : enters Tryz.prog 6 = true := by kernel_rfl
theorem e7 : enters Tryz.prog 7 = true := by kernel_rfl
theorem e8 : enters Tryz.prog 8 = true := by kernel_rfl
theorem e9 : enters Tryz.prog 9 = true := by kernel_rfl
theorem e10 : enters Tryz.prog 10 = true := by kernel_rfl
theorem e11 : enters Tryz.prog 11 = true := by kernel_rfl
theorem e12 : enters Tryz.prog 12 = true := by kernel_rfl
theorem e13 : enters Tryz.prog 13 = true := by kernel_rfl
theorem e14 : enters Tryz.prog 14 = true := by kernel_rfl
theorem e15 : enters Tryz.prog 15 = true := by kernel_rfl
theorem e17 : enters Tryz.prog 17 = true := by kernel_rfl
theorem e18 : enters Tryz.prog 18 = true := by kernel_rfl
theorem e19 : enters Tryz.prog 19 = true := by kernel_rfl
theorem e20 : enters Tryz.prog 20 = true := by kernel_rfl
theorem e21 : enters Tryz.prog 21 = true := by kernel_rfl
theorem e22 : enters Tryz.prog 22 = true := by kernel_rfl
theorem e23 : enters Tryz.prog 23 = true := by kernel_rfl
theorem e24 : enters Tryz.prog 24 = true := by kernel_rfl
theorem e25 : enters Tryz.prog 25 = true := by kernel_rfl
theorem e26 : enters Tryz.prog 26 = true := by kernel_rfl
theorem e27 : enters Tryz.prog 27 = true := by kernel_rfl
theorem e28 : enters Tryz.prog 28 = true := by kernel_rfl
theorem e29 : enters Tryz.prog 29 = true := by kernel_rfl
theorem e30 : enters Tryz.prog 30 = true := by kernel_rfl
theorem e31 : enters Tryz.prog 31 = true := by kernel_rfl
theorem e33 : enters Tryz.prog 33 = true := by kernel_rfl
theorem e34 : enters Tryz.prog 34 = true := by kernel_rfl
theorem e35 : enters Tryz.prog 35 = true := by kernel_rfl
theorem e36 : enters Tryz.prog 36 = true := by kernel_rfl
theorem e37 : enters Tryz.prog 37 = true := by kernel_rfl
theorem e38 : enters Tryz.prog 38 = true := by kernel_rfl
theorem e39 : enters Tryz.prog 39 = true := by kernel_rfl
theorem e40 : enters Tryz.prog 40 = true := by kernel_rfl
theorem e41 : enters Tryz.prog 41 = true := by kernel_rfl
theorem e42 : enters Tryz.prog 42 = true := by kernel_rfl
theorem e43 : enters Tryz.prog 43 = true := by kernel_rfl
theorem e44 : enters Tryz.prog 44 = true := by kernel_rfl
theorem e45 : enters Tryz.prog 45 = true := by kernel_rfl
theorem e46 : enters Tryz.prog 46 = true := by kernel_rfl
theorem e47 : enters Tryz.prog 47 = true := by kernel_rfl
theorem e48 : enters Tryz.prog 48 = true := by kernel_rfl
theorem e49 : enters Tryz.prog 49 = true := by kernel_rfl
theorem e50 : enters Tryz.prog 50 = true := by kernel_rfl
theorem e51 : enters Tryz.prog 51 = true := by kernel_rfl
theorem e52 : enters Tryz.prog 52 = true := by kernel_rfl
theorem e53 : enters Tryz.prog 53 = true := by kernel_rfl
theorem e54 : enters Tryz.prog 54 = true := by kernel_rfl
theorem e55 : enters Tryz.prog 55 = true := by kernel_rfl
theorem e58 : enters Tryz.prog 58 = true := by kernel_rfl
theorem e59 : enters Tryz.prog 59 = true := by kernel_rfl
theorem e60 : enters Tryz.prog 60 = true := by kernel_rfl
theorem e61 : enters Tryz.prog 61 = true := by kernel_rfl
theorem e62 : enters Tryz.prog 62 = true := by kernel_rfl
theorem e64 : enters Tryz.prog 64 = true := by kernel_rfl
theorem e65 : enters Tryz.prog 65 = true := by kernel_rfl
theorem e66 : enters Tryz.prog 66 = true := by kernel_rfl
theorem e67 : enters Tryz.prog 67 = true := by kernel_rfl
theorem e68 : enters Tryz.prog 68 = true := by kernel_rfl
theorem e69 : enters Tryz.prog 69 = true := by kernel_rfl
theorem e70 : enters Tryz.prog 70 = true := by kernel_rfl
theorem e71 : enters Tryz.prog 71 = true := by kernel_rfl
theorem e72 : enters Tryz.prog 72 = true := by kernel_rfl
theorem e73 : enters Tryz.prog 73 = true := by kernel_rfl
theorem e74 : enters Tryz.prog 74 = true := by kernel_rfl
theorem e75 : enters Tryz.prog 75 = true := by kernel_rfl
theorem e76 : enters Tryz.prog 76 = true := by kernel_rfl
theorem e77 : enters Tryz.prog 77 = true := by kernel_rfl
theorem e78 : enters Tryz.prog 78 = true := by kernel_rfl
theorem e79 : enters Tryz.prog 79 = true := by kernel_rfl
theorem e80 : enters Tryz.prog 80 = true := by kernel_rfl
theorem e82 : enters Tryz.prog 82 = true := by kernel_rfl
theorem e83 : enters Tryz.prog 83 = true := by kernel_rfl
theorem e84 : enters Tryz.prog 84 = true := by kernel_rfl
theorem e85 : enters Tryz.prog 85 = true := by kernel_rfl
theorem e86 : enters Tryz.prog 86 = true := by kernel_rfl
theorem e87 : enters Tryz.prog 87 = true := by kernel_rfl
theorem e90 : enters Tryz.prog 90 = true := by kernel_rfl
theorem e91 : enters Tryz.prog 91 = true := by kernel_rfl
theorem e92 : enters Tryz.prog 92 = true := by kernel_rfl
theorem e93 : enters Tryz.prog 93 = true := by kernel_rfl
theorem e94 : enters Tryz.prog 94 = true := by kernel_rfl
theorem e95 : enters Tryz.prog 95 = true := by kernel_rfl
theorem e96 : enters Tryz.prog 96 = true := by kernel_rfl
theorem e97 : enters Tryz.prog 97 = true := by kernel_rfl
theorem e98 : enters Tryz.prog 98 = true := by kernel_rfl
theorem e99 : enters Tryz.prog 99 = true := by kernel_rfl
theorem e100 : enters Tryz.prog 100 = true := by kernel_rfl
theorem e101 : enters Tryz.prog 101 = true := by kernel_rfl
theorem e102 : enters Tryz.prog 102 = true := by kernel_rfl
theorem e105 : enters Tryz.prog 105 = true := by kernel_rfl
theorem e106 : enters Tryz.prog 106 = true := by kernel_rfl
theorem e107 : enters Tryz.prog 107 = true := by kernel_rfl
theorem e108 : enters Tryz.prog 108 = true := by kernel_rfl
theorem e109 : enters Tryz.prog 109 = true := by kernel_rfl
theorem e110 : enters Tryz.prog 110 = true := by kernel_rfl
theorem e111 : enters Tryz.prog 111 = true := by kernel_rfl
theorem e112 : enters Tryz.prog 112 = true := by kernel_rfl
theorem e113 : enters Tryz.prog 113 = true := by kernel_rfl
theorem e114 : enters Tryz.prog 114 = true := by kernel_rfl
theorem e115 : enters Tryz.prog 115 = true := by kernel_rfl
theorem e116 : enters Tryz.prog 116 = true := by kernel_rfl
theorem e117 : enters Tryz.prog 117 = true := by kernel_rfl
theorem e118 : enters Tryz.prog 118 = true := by kernel_rfl
theorem e119 : enters Tryz.prog 119 = true := by kernel_rfl
theorem e120 : enters Tryz.prog 120 = true := by kernel_rfl
theorem e121 : enters Tryz.prog 121 = true := by kernel_rfl
theorem e123 : enters Tryz.prog 123 = true := by kernel_rfl
theorem e124 : enters Tryz.prog 124 = true := by kernel_rfl
theorem e125 : enters Tryz.prog 125 = true := by kernel_rfl
theorem e126 : enters Tryz.prog 126 = true := by kernel_rfl
theorem e127 : enters Tryz.prog 127 = true := by kernel_rfl
theorem e128 : enters Tryz.prog 128 = true := by kernel_rfl
theorem e129 : enters Tryz.prog 129 = true := by kernel_rfl
theorem e131 : enters Tryz.prog 131 = true := by kernel_rfl
theorem e132 : enters Tryz.prog 132 = true := by kernel_rfl
theorem e133 : enters Tryz.prog 133 = true := by kernel_rfl
theorem e135 : enters Tryz.prog 135 = true := by kernel_rfl
theorem e136 : enters Tryz.prog 136 = true := by kernel_rfl
theorem e137 : enters Tryz.prog 137 = true := by kernel_rfl
theorem e138 : enters Tryz.prog 138 = true := by kernel_rfl
theorem e139 : enters Tryz.prog 139 = true := by kernel_rfl
end Go.Proofs.YtimimkdgofiloaaGreatDoor
