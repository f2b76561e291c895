/-
 A PART OF THE PROOF of ClI (texts TryA MagA MagB MagC MagD MagE): the claim itself stands in the last text. No conditions beside those of the given row.
-/
import Derived.Test.YtjefeldkonejcaaGreatAbsQ
import Derived.Test.YtjefeldkonejcaaGreatChecked
import Derived.KernelRfl
import Derived.Laws.BitsLemmas
import Derived.Laws.Bits64
import Derived.Laws.Runes
set_option linter.unusedVariables false
set_option linter.unnecessarySimpa false
set_option linter.unusedSimpArgs false
namespace Go.Abs
open Go.Proofs
def tryT:Tab:=
 [(1,⟨1,false,[.undef],.plain⟩),
  (2,⟨1,false,[.int .i64 0],.int .i64⟩),
  (3,⟨1,false,[.int .i64 0],.int .i64⟩),
  (4,⟨1,false,[.bool false],.bool⟩),
  (5,⟨1,false,[.int .u8 0],.int .u8⟩),
  (6,⟨1,false,[.int .u8 0],.int .u8⟩),
  (7,⟨4,true,[.int .i64 0,.int .i64 0,.bool false,.int .u8 0],.struct [(0,1),(1,1),(2,1),(3,1)]⟩),
  (8,⟨4,true,[.int .i64 0,.int .i64 0,.bool false,.int .u8 0],.struct [(0,1),(1,1),(2,1),(3,1)]⟩),
  (9,⟨1,false,[.str ⟨#[]⟩],.str⟩),
  (10,⟨1,false,[.str ⟨#[]⟩],.str⟩),
  (12,⟨1,false,[.int .u64 0],.int .u64⟩),
  (13,⟨2,true,[.str ⟨#[]⟩,.int .u64 0],.struct [(0,1),(1,1)]⟩),
  (14,⟨2,true,[.str ⟨#[]⟩,.int .u64 0],.struct [(0,1),(1,1)]⟩),
  (16,⟨1,false,[.nilp],.ptr⟩),
  (17,⟨1,false,[.nilp],.ptr⟩),
  (18,⟨1,true,[.nilp],.struct [(0,1)]⟩),
  (19,⟨1,true,[.nilp],.struct [(0,1)]⟩),
  (20,⟨1,false,[.undef],.plain⟩),
  (21,⟨1,false,[.int .i32 0],.int .i32⟩),
  (22,⟨1,false,[.nils],.slice 75 120 (.pair (.pair (.pair (.pair (.int .i64) (.int .i64)) (.pair (.pair (.int .i64) (.int .i64)) (.pair (.int .i64) (.int .i64)))) (.pair (.pair (.int .i64) (.int .i64)) (.pair (.pair (.int .i64) (.int .i64)) (.pair (.int .i64) (.int .i64))))) (.pair (.int .i64) (.pair (.int .i64) (.int .i64))))⟩),
  (23,⟨2,true,[.int .i64 0,.int .i64 0],.struct [(0,1),(1,1)]⟩),
  (24,⟨2,true,[.int .i64 0,.int .i64 0],.struct [(0,1),(1,1)]⟩),
  (25,⟨6,true,[.int .i64 0,.int .i64 0,.int .i64 0,.int .i64 0,.int .i64 0,.int .i64 0],.struct [(0,2),(2,2),(4,2)]⟩),
  (26,⟨6,true,[.int .i64 0,.int .i64 0,.int .i64 0,.int .i64 0,.int .i64 0,.int .i64 0],.struct [(0,2),(2,2),(4,2)]⟩),
  (28,⟨2,true,[.int .i64 0,.int .i64 0],.struct [(0,1),(1,1)]⟩),
  (31,⟨1,false,[.nils],.slice 72 120 (.pair (.pair (.pair (.pair (.int .i64) (.int .i64)) (.pair (.pair (.int .i64) (.int .i64)) (.pair (.int .i64) (.int .i64)))) (.pair (.pair (.int .i64) (.int .i64)) (.pair (.pair (.int .i64) (.int .i64)) (.pair (.int .i64) (.int .i64))))) (.pair (.int .i64) (.pair (.int .i64) (.int .i64))))⟩),
  (32,⟨1,false,[.undef],.plain⟩),
  (33,⟨6,true,[.int .i64 0,.int .i64 0,.int .i64 0,.int .i64 0,.int .i64 0,.int .i64 0],.struct [(0,2),(2,2),(4,2)]⟩),
  (34,⟨6,true,[.int .i64 0,.int .i64 0,.int .i64 0,.int .i64 0,.int .i64 0,.int .i64 0],.struct [(0,2),(2,2),(4,2)]⟩),
  (40,⟨1,false,[.undef],.plain⟩),
  (41,⟨12,true,[.int .i64 0,.int .i64 0,.int .i64 0,.int .i64 0,.int .i64 0,.int .i64 0,.int .i64 0,.int .i64 0,.int .i64 0,.int .i64 0,.int .i64 0,.int .i64 0],.struct [(0,6),(6,6)]⟩),
  (42,⟨12,true,[.int .i64 0,.int .i64 0,.int .i64 0,.int .i64 0,.int .i64 0,.int .i64 0,.int .i64 0,.int .i64 0,.int .i64 0,.int .i64 0,.int .i64 0,.int .i64 0],.struct [(0,6),(6,6)]⟩),
  (44,⟨1,false,[.undef],.plain⟩),
  (45,⟨12,true,[.int .i64 0,.int .i64 0,.int .i64 0,.int .i64 0,.int .i64 0,.int .i64 0,.int .i64 0,.int .i64 0,.int .i64 0,.int .i64 0,.int .i64 0,.int .i64 0],.struct [(0,6),(6,6)]⟩),
  (46,⟨12,true,[.int .i64 0,.int .i64 0,.int .i64 0,.int .i64 0,.int .i64 0,.int .i64 0,.int .i64 0,.int .i64 0,.int .i64 0,.int .i64 0,.int .i64 0,.int .i64 0],.struct [(0,6),(6,6)]⟩),
  (48,⟨1,false,[.undef],.plain⟩),
  (49,⟨1,false,[.nils],.slice 2 8 (.int .i64)⟩),
  (57,⟨1,false,[.nils],.slice 66 240 (.pair (.pair (.num 1) (.pair (.num 1) (.num 1))) (.pair (.num 1) (.pair (.num 1) (.num 1))))⟩),
  (59,⟨1,false,[.nils],.slice 115 32 (.pair .bool (.list (.int .u32)))⟩),
  (60,⟨3,true,[.int .i64 0,.int .i64 0,.nils],.struct [(0,1),(1,1),(2,1)]⟩),
  (61,⟨3,true,[.num 1 none],.plain⟩),
  (63,⟨9,true,[.num 1 none,.num 1 none,.num 1 none],.struct [(0,3),(3,3),(6,3)]⟩),
  (64,⟨9,true,[.num 1 none,.num 1 none,.num 1 none],.struct [(0,3),(3,3),(6,3)]⟩),
  (65,⟨18,true,[.num 1 none,.num 1 none,.num 1 none,.num 1 none,.num 1 none,.num 1 none],.struct [(0,9),(9,9)]⟩),
  (66,⟨18,true,[.num 1 none,.num 1 none,.num 1 none,.num 1 none,.num 1 none,.num 1 none],.struct [(0,9),(9,9)]⟩),
  (71,⟨15,true,[.int .i64 0,.int .i64 0,.int .i64 0,.int .i64 0,.int .i64 0,.int .i64 0,.int .i64 0,.int .i64 0,.int .i64 0,.int .i64 0,.int .i64 0,.int .i64 0,.int .i64 0,.int .i64 0,.int .i64 0],.struct [(0,12),(12,1),(13,1),(14,1)]⟩),
  (72,⟨15,true,[.int .i64 0,.int .i64 0,.int .i64 0,.int .i64 0,.int .i64 0,.int .i64 0,.int .i64 0,.int .i64 0,.int .i64 0,.int .i64 0,.int .i64 0,.int .i64 0,.int .i64 0,.int .i64 0,.int .i64 0],.struct [(0,12),(12,1),(13,1),(14,1)]⟩),
  (74,⟨15,true,[.int .i64 0,.int .i64 0,.int .i64 0,.int .i64 0,.int .i64 0,.int .i64 0,.int .i64 0,.int .i64 0,.int .i64 0,.int .i64 0,.int .i64 0,.int .i64 0,.int .i64 0,.int .i64 0,.int .i64 0],.struct [(0,12),(12,1),(13,1),(14,1)]⟩),
  (75,⟨15,true,[.int .i64 0,.int .i64 0,.int .i64 0,.int .i64 0,.int .i64 0,.int .i64 0,.int .i64 0,.int .i64 0,.int .i64 0,.int .i64 0,.int .i64 0,.int .i64 0,.int .i64 0,.int .i64 0,.int .i64 0],.struct [(0,12),(12,1),(13,1),(14,1)]⟩),
  (77,⟨1,false,[.nilp],.ptr⟩),
  (78,⟨3,true,[.int .i64 0,.int .i64 0,.nilp],.struct [(0,1),(1,1),(2,1)]⟩),
  (79,⟨3,true,[.num 0 none],.plain⟩),
  (80,⟨9,true,[.num 0 none,.num 0 none,.num 0 none],.array 3 3⟩),
  (81,⟨9,true,[.num 0 none,.num 0 none,.num 0 none],.array 3 3⟩),
  (83,⟨18,true,[.num 0 none,.num 0 none,.num 0 none,.num 0 none,.num 0 none,.num 0 none],.struct [(0,9),(9,9)]⟩),
  (84,⟨18,true,[.num 0 none,.num 0 none,.num 0 none,.num 0 none,.num 0 none,.num 0 none],.struct [(0,9),(9,9)]⟩),
  (96,⟨1,false,[.undef],.plain⟩),
  (104,⟨1,false,[.nils],.slice 46 96 (.pair (.pair (.pair (.int .i64) (.int .i64)) (.pair (.pair (.int .i64) (.int .i64)) (.pair (.int .i64) (.int .i64)))) (.pair (.pair (.int .i64) (.int .i64)) (.pair (.pair (.int .i64) (.int .i64)) (.pair (.int .i64) (.int .i64)))))⟩),
  (105,⟨1,false,[.nils],.slice 4 1 .bool⟩),
  (112,⟨1,false,[.undef],.plain⟩),
  (113,⟨1,false,[.nils],.slice 162 4 (.int .u32)⟩),
  (114,⟨2,true,[.bool false,.nils],.struct [(0,1),(1,1)]⟩),
  (115,⟨2,true,[.bool false,.nils],.struct [(0,1),(1,1)]⟩),
  (120,⟨1,false,[.int .u64 0],.int .u64⟩),
  (123,⟨1,false,[.undef],.plain⟩),
  (125,⟨1,false,[.undef],.plain⟩),
  (136,⟨2,true,[.bool false,.nils],.struct [(0,1),(1,1)]⟩),
  (137,⟨2,true,[.bool false,.nils],.struct [(0,1),(1,1)]⟩),
  (138,⟨4,true,[.bool false,.nils,.bool false,.nils],.struct [(0,2),(2,2)]⟩),
  (139,⟨4,true,[.bool false,.nils,.bool false,.nils],.struct [(0,2),(2,2)]⟩),
  (144,⟨1,false,[.undef],.plain⟩),
  (151,⟨1,false,[.undef],.plain⟩),
  (152,⟨1,false,[.undef],.plain⟩),
  (153,⟨1,false,[.undef],.plain⟩),
  (158,⟨1,false,[.undef],.plain⟩),
  (159,⟨1,false,[.undef],.plain⟩),
  (160,⟨1,false,[.undef],.plain⟩),
  (161,⟨1,false,[.int .u64 0],.int .u64⟩),
  (162,⟨1,false,[.int .u32 0],.int .u32⟩),
  (163,⟨1,false,[.nils],.slice 84 144 (.pair (.pair (.num 0) (.pair (.num 0) (.num 0))) (.pair (.num 0) (.pair (.num 0) (.num 0))))⟩),
  (164,⟨1,false,[.nils],.slice 3 8 (.int .i64)⟩),
  (165,⟨1,false,[.nilp],.ptr⟩),
  (168,⟨1,false,[.nils],.slice 28 16 (.pair (.int .i64) (.int .i64))⟩),
  (170,⟨1,false,[.nilp],.ptr⟩),
  (179,⟨1,false,[.nilp],.plain⟩),
  (180,⟨1,false,[.int .u64 0],.int .u64⟩),
  (181,⟨3,true,[.nilp,.nilp,.int .u64 0],.struct [(0,1),(1,1),(2,1)]⟩),
  (182,⟨3,true,[.nilp,.nilp,.int .u64 0],.struct [(0,1),(1,1),(2,1)]⟩),
  (184,⟨1,false,[.undef],.plain⟩),
  (188,⟨2,true,[.undef,.undef],.struct [(0,1),(1,1)]⟩),
  (189,⟨2,true,[.undef,.undef],.struct [(0,1),(1,1)]⟩),
  (192,⟨1,false,[.nils],.slice 61 40 (.num 1)⟩),
  (200,⟨21,true,[.num 0 none,.num 0 none,.num 0 none,.num 0 none,.num 0 none,.num 0 none,.nilp,.nilp,.int .i64 0],.struct [(0,18),(18,1),(19,1),(20,1)]⟩),
  (201,⟨21,true,[.num 0 none,.num 0 none,.num 0 none,.num 0 none,.num 0 none,.num 0 none,.nilp,.nilp,.int .i64 0],.struct [(0,18),(18,1),(19,1),(20,1)]⟩),
  (260,⟨0,true,[],.array 0 1⟩),
  (263,⟨1,false,[.int .u8 0],.int .u8⟩),
  (264,⟨1,false,[.int .u8 0],.int .u8⟩),
  (265,⟨1,false,[.undef],.plain⟩),
  (266,⟨1,false,[.nilp],.ptr⟩),
  (267,⟨1,false,[.int .i32 0],.int .i32⟩),
  (268,⟨1,false,[.int .i32 0],.int .i32⟩),
  (269,⟨11,true,[.int .u64 0,.int .u64 0,.int .u32 0,.int .u8 0,.int .u8 0,.int .u8 0,.int .u8 0,.undef,.nilp,.int .i32 0,.int .i32 0],.struct [(0,1),(1,1),(2,1),(3,1),(4,1),(5,1),(6,1),(7,1),(8,1),(9,1),(10,1)]⟩),
  (270,⟨11,true,[.int .u64 0,.int .u64 0,.int .u32 0,.int .u8 0,.int .u8 0,.int .u8 0,.int .u8 0,.undef,.nilp,.int .i32 0,.int .i32 0],.struct [(0,1),(1,1),(2,1),(3,1),(4,1),(5,1),(6,1),(7,1),(8,1),(9,1),(10,1)]⟩),
  (272,⟨2,true,[.str ⟨#[]⟩,.int .u8 0],.struct [(0,1),(1,1)]⟩)]
set_option maxRecDepth 100000 in
theorem tryT_ok:tabOkB Tryz.prog tryT=true:=by kernel_rfl
def tranT:Tab:=
 [(1,⟨1,false,[.undef],.plain⟩),
  (2,⟨1,false,[.int .i64 0],.int .i64⟩),
  (3,⟨1,false,[.int .i64 0],.int .i64⟩),
  (4,⟨1,false,[.bool false],.bool⟩),
  (5,⟨1,false,[.int .u8 0],.int .u8⟩),
  (6,⟨1,false,[.int .u8 0],.int .u8⟩),
  (7,⟨4,true,[.int .i64 0,.int .i64 0,.bool false,.int .u8 0],.struct [(0,1),(1,1),(2,1),(3,1)]⟩),
  (8,⟨4,true,[.int .i64 0,.int .i64 0,.bool false,.int .u8 0],.struct [(0,1),(1,1),(2,1),(3,1)]⟩),
  (9,⟨1,false,[.str ⟨#[]⟩],.str⟩),
  (10,⟨1,false,[.str ⟨#[]⟩],.str⟩),
  (12,⟨1,false,[.int .u64 0],.int .u64⟩),
  (13,⟨2,true,[.str ⟨#[]⟩,.int .u64 0],.struct [(0,1),(1,1)]⟩),
  (14,⟨2,true,[.str ⟨#[]⟩,.int .u64 0],.struct [(0,1),(1,1)]⟩),
  (16,⟨1,false,[.nilp],.ptr⟩),
  (17,⟨1,false,[.nilp],.ptr⟩),
  (18,⟨1,true,[.nilp],.struct [(0,1)]⟩),
  (19,⟨1,true,[.nilp],.struct [(0,1)]⟩),
  (20,⟨1,false,[.undef],.plain⟩),
  (21,⟨1,false,[.int .i32 0],.int .i32⟩),
  (22,⟨1,false,[.nils],.slice 75 120 (.pair (.pair (.pair (.pair (.int .i64) (.int .i64)) (.pair (.pair (.int .i64) (.int .i64)) (.pair (.int .i64) (.int .i64)))) (.pair (.pair (.int .i64) (.int .i64)) (.pair (.pair (.int .i64) (.int .i64)) (.pair (.int .i64) (.int .i64))))) (.pair (.int .i64) (.pair (.int .i64) (.int .i64))))⟩),
  (23,⟨2,true,[.int .i64 0,.int .i64 0],.struct [(0,1),(1,1)]⟩),
  (24,⟨2,true,[.int .i64 0,.int .i64 0],.struct [(0,1),(1,1)]⟩),
  (25,⟨6,true,[.int .i64 0,.int .i64 0,.int .i64 0,.int .i64 0,.int .i64 0,.int .i64 0],.struct [(0,2),(2,2),(4,2)]⟩),
  (26,⟨6,true,[.int .i64 0,.int .i64 0,.int .i64 0,.int .i64 0,.int .i64 0,.int .i64 0],.struct [(0,2),(2,2),(4,2)]⟩),
  (28,⟨2,true,[.int .i64 0,.int .i64 0],.struct [(0,1),(1,1)]⟩),
  (31,⟨1,false,[.nils],.slice 72 120 (.pair (.pair (.pair (.pair (.int .i64) (.int .i64)) (.pair (.pair (.int .i64) (.int .i64)) (.pair (.int .i64) (.int .i64)))) (.pair (.pair (.int .i64) (.int .i64)) (.pair (.pair (.int .i64) (.int .i64)) (.pair (.int .i64) (.int .i64))))) (.pair (.int .i64) (.pair (.int .i64) (.int .i64))))⟩),
  (32,⟨1,false,[.undef],.plain⟩),
  (33,⟨6,true,[.int .i64 0,.int .i64 0,.int .i64 0,.int .i64 0,.int .i64 0,.int .i64 0],.struct [(0,2),(2,2),(4,2)]⟩),
  (34,⟨6,true,[.int .i64 0,.int .i64 0,.int .i64 0,.int .i64 0,.int .i64 0,.int .i64 0],.struct [(0,2),(2,2),(4,2)]⟩),
  (40,⟨1,false,[.undef],.plain⟩),
  (41,⟨12,true,[.int .i64 0,.int .i64 0,.int .i64 0,.int .i64 0,.int .i64 0,.int .i64 0,.int .i64 0,.int .i64 0,.int .i64 0,.int .i64 0,.int .i64 0,.int .i64 0],.struct [(0,6),(6,6)]⟩),
  (42,⟨12,true,[.int .i64 0,.int .i64 0,.int .i64 0,.int .i64 0,.int .i64 0,.int .i64 0,.int .i64 0,.int .i64 0,.int .i64 0,.int .i64 0,.int .i64 0,.int .i64 0],.struct [(0,6),(6,6)]⟩),
  (44,⟨1,false,[.undef],.plain⟩),
  (45,⟨12,true,[.int .i64 0,.int .i64 0,.int .i64 0,.int .i64 0,.int .i64 0,.int .i64 0,.int .i64 0,.int .i64 0,.int .i64 0,.int .i64 0,.int .i64 0,.int .i64 0],.struct [(0,6),(6,6)]⟩),
  (46,⟨12,true,[.int .i64 0,.int .i64 0,.int .i64 0,.int .i64 0,.int .i64 0,.int .i64 0,.int .i64 0,.int .i64 0,.int .i64 0,.int .i64 0,.int .i64 0,.int .i64 0],.struct [(0,6),(6,6)]⟩),
  (48,⟨1,false,[.undef],.plain⟩),
  (49,⟨1,false,[.nils],.slice 2 8 (.int .i64)⟩),
  (57,⟨1,false,[.nils],.slice 66 240 (.pair (.pair (.pair (.int .i64) (.pair (.int .i64) (.list (.pair .bool (.list (.int .u32)))))) (.pair (.pair (.int .i64) (.pair (.int .i64) (.list (.pair .bool (.list (.int .u32)))))) (.pair (.int .i64) (.pair (.int .i64) (.list (.pair .bool (.list (.int .u32)))))))) (.pair (.pair (.int .i64) (.pair (.int .i64) (.list (.pair .bool (.list (.int .u32)))))) (.pair (.pair (.int .i64) (.pair (.int .i64) (.list (.pair .bool (.list (.int .u32)))))) (.pair (.int .i64) (.pair (.int .i64) (.list (.pair .bool (.list (.int .u32)))))))))⟩),
  (59,⟨1,false,[.nils],.slice 115 32 (.pair .bool (.list (.int .u32)))⟩),
  (60,⟨3,true,[.int .i64 0,.int .i64 0,.nils],.struct [(0,1),(1,1),(2,1)]⟩),
  (61,⟨3,true,[.int .i64 0,.int .i64 0,.nils],.struct [(0,1),(1,1),(2,1)]⟩),
  (63,⟨9,true,[.int .i64 0,.int .i64 0,.nils,.int .i64 0,.int .i64 0,.nils,.int .i64 0,.int .i64 0,.nils],.struct [(0,3),(3,3),(6,3)]⟩),
  (64,⟨9,true,[.int .i64 0,.int .i64 0,.nils,.int .i64 0,.int .i64 0,.nils,.int .i64 0,.int .i64 0,.nils],.struct [(0,3),(3,3),(6,3)]⟩),
  (65,⟨18,true,[.int .i64 0,.int .i64 0,.nils,.int .i64 0,.int .i64 0,.nils,.int .i64 0,.int .i64 0,.nils,.int .i64 0,.int .i64 0,.nils,.int .i64 0,.int .i64 0,.nils,.int .i64 0,.int .i64 0,.nils],.struct [(0,9),(9,9)]⟩),
  (66,⟨18,true,[.int .i64 0,.int .i64 0,.nils,.int .i64 0,.int .i64 0,.nils,.int .i64 0,.int .i64 0,.nils,.int .i64 0,.int .i64 0,.nils,.int .i64 0,.int .i64 0,.nils,.int .i64 0,.int .i64 0,.nils],.struct [(0,9),(9,9)]⟩),
  (71,⟨15,true,[.int .i64 0,.int .i64 0,.int .i64 0,.int .i64 0,.int .i64 0,.int .i64 0,.int .i64 0,.int .i64 0,.int .i64 0,.int .i64 0,.int .i64 0,.int .i64 0,.int .i64 0,.int .i64 0,.int .i64 0],.struct [(0,12),(12,1),(13,1),(14,1)]⟩),
  (72,⟨15,true,[.int .i64 0,.int .i64 0,.int .i64 0,.int .i64 0,.int .i64 0,.int .i64 0,.int .i64 0,.int .i64 0,.int .i64 0,.int .i64 0,.int .i64 0,.int .i64 0,.int .i64 0,.int .i64 0,.int .i64 0],.struct [(0,12),(12,1),(13,1),(14,1)]⟩),
  (74,⟨15,true,[.int .i64 0,.int .i64 0,.int .i64 0,.int .i64 0,.int .i64 0,.int .i64 0,.int .i64 0,.int .i64 0,.int .i64 0,.int .i64 0,.int .i64 0,.int .i64 0,.int .i64 0,.int .i64 0,.int .i64 0],.struct [(0,12),(12,1),(13,1),(14,1)]⟩),
  (75,⟨15,true,[.int .i64 0,.int .i64 0,.int .i64 0,.int .i64 0,.int .i64 0,.int .i64 0,.int .i64 0,.int .i64 0,.int .i64 0,.int .i64 0,.int .i64 0,.int .i64 0,.int .i64 0,.int .i64 0,.int .i64 0],.struct [(0,12),(12,1),(13,1),(14,1)]⟩),
  (77,⟨1,false,[.nilp],.ptr⟩),
  (78,⟨3,true,[.int .i64 0,.int .i64 0,.nilp],.struct [(0,1),(1,1),(2,1)]⟩),
  (79,⟨3,true,[.int .i64 0,.int .i64 0,.nilp],.struct [(0,1),(1,1),(2,1)]⟩),
  (80,⟨9,true,[.int .i64 0,.int .i64 0,.nilp,.int .i64 0,.int .i64 0,.nilp,.int .i64 0,.int .i64 0,.nilp],.array 3 3⟩),
  (81,⟨9,true,[.int .i64 0,.int .i64 0,.nilp,.int .i64 0,.int .i64 0,.nilp,.int .i64 0,.int .i64 0,.nilp],.array 3 3⟩),
  (83,⟨18,true,[.int .i64 0,.int .i64 0,.nilp,.int .i64 0,.int .i64 0,.nilp,.int .i64 0,.int .i64 0,.nilp,.int .i64 0,.int .i64 0,.nilp,.int .i64 0,.int .i64 0,.nilp,.int .i64 0,.int .i64 0,.nilp],.struct [(0,9),(9,9)]⟩),
  (84,⟨18,true,[.int .i64 0,.int .i64 0,.nilp,.int .i64 0,.int .i64 0,.nilp,.int .i64 0,.int .i64 0,.nilp,.int .i64 0,.int .i64 0,.nilp,.int .i64 0,.int .i64 0,.nilp,.int .i64 0,.int .i64 0,.nilp],.struct [(0,9),(9,9)]⟩),
  (96,⟨1,false,[.undef],.plain⟩),
  (104,⟨1,false,[.nils],.slice 46 96 (.pair (.pair (.pair (.int .i64) (.int .i64)) (.pair (.pair (.int .i64) (.int .i64)) (.pair (.int .i64) (.int .i64)))) (.pair (.pair (.int .i64) (.int .i64)) (.pair (.pair (.int .i64) (.int .i64)) (.pair (.int .i64) (.int .i64)))))⟩),
  (105,⟨1,false,[.nils],.slice 4 1 .bool⟩),
  (112,⟨1,false,[.undef],.plain⟩),
  (113,⟨1,false,[.nils],.slice 162 4 (.int .u32)⟩),
  (114,⟨2,true,[.bool false,.nils],.struct [(0,1),(1,1)]⟩),
  (115,⟨2,true,[.bool false,.nils],.struct [(0,1),(1,1)]⟩),
  (120,⟨1,false,[.int .u64 0],.int .u64⟩),
  (123,⟨1,false,[.undef],.plain⟩),
  (125,⟨1,false,[.undef],.plain⟩),
  (136,⟨2,true,[.bool false,.nils],.struct [(0,1),(1,1)]⟩),
  (137,⟨2,true,[.bool false,.nils],.struct [(0,1),(1,1)]⟩),
  (138,⟨4,true,[.bool false,.nils,.bool false,.nils],.struct [(0,2),(2,2)]⟩),
  (139,⟨4,true,[.bool false,.nils,.bool false,.nils],.struct [(0,2),(2,2)]⟩),
  (144,⟨1,false,[.undef],.plain⟩),
  (151,⟨1,false,[.undef],.plain⟩),
  (152,⟨1,false,[.undef],.plain⟩),
  (153,⟨1,false,[.undef],.plain⟩),
  (158,⟨1,false,[.undef],.plain⟩),
  (159,⟨1,false,[.undef],.plain⟩),
  (160,⟨1,false,[.undef],.plain⟩),
  (161,⟨1,false,[.int .u64 0],.int .u64⟩),
  (162,⟨1,false,[.int .u32 0],.int .u32⟩),
  (163,⟨1,false,[.nils],.plain⟩),
  (164,⟨1,false,[.nils],.slice 3 8 (.int .i64)⟩),
  (165,⟨1,false,[.nilp],.ptr⟩),
  (168,⟨1,false,[.nils],.slice 28 16 (.pair (.int .i64) (.int .i64))⟩),
  (170,⟨1,false,[.nilp],.ptr⟩),
  (179,⟨1,false,[.nilp],.plain⟩),
  (180,⟨1,false,[.int .u64 0],.int .u64⟩),
  (181,⟨3,true,[.nilp,.nilp,.int .u64 0],.struct [(0,1),(1,1),(2,1)]⟩),
  (182,⟨3,true,[.nilp,.nilp,.int .u64 0],.struct [(0,1),(1,1),(2,1)]⟩),
  (184,⟨1,false,[.undef],.plain⟩),
  (188,⟨2,true,[.undef,.undef],.struct [(0,1),(1,1)]⟩),
  (189,⟨2,true,[.undef,.undef],.struct [(0,1),(1,1)]⟩),
  (192,⟨1,false,[.nils],.slice 61 40 (.pair (.int .i64) (.pair (.int .i64) (.list (.pair .bool (.list (.int .u32))))))⟩),
  (200,⟨21,true,[.int .i64 0,.int .i64 0,.nilp,.int .i64 0,.int .i64 0,.nilp,.int .i64 0,.int .i64 0,.nilp,.int .i64 0,.int .i64 0,.nilp,.int .i64 0,.int .i64 0,.nilp,.int .i64 0,.int .i64 0,.nilp,.nilp,.nilp,.int .i64 0],.struct [(0,18),(18,1),(19,1),(20,1)]⟩),
  (201,⟨21,true,[.int .i64 0,.int .i64 0,.nilp,.int .i64 0,.int .i64 0,.nilp,.int .i64 0,.int .i64 0,.nilp,.int .i64 0,.int .i64 0,.nilp,.int .i64 0,.int .i64 0,.nilp,.int .i64 0,.int .i64 0,.nilp,.nilp,.nilp,.int .i64 0],.struct [(0,18),(18,1),(19,1),(20,1)]⟩),
  (260,⟨0,true,[],.array 0 1⟩),
  (263,⟨1,false,[.int .u8 0],.int .u8⟩),
  (264,⟨1,false,[.int .u8 0],.int .u8⟩),
  (265,⟨1,false,[.undef],.plain⟩),
  (266,⟨1,false,[.nilp],.ptr⟩),
  (267,⟨1,false,[.int .i32 0],.int .i32⟩),
  (268,⟨1,false,[.int .i32 0],.int .i32⟩),
  (269,⟨11,true,[.int .u64 0,.int .u64 0,.int .u32 0,.int .u8 0,.int .u8 0,.int .u8 0,.int .u8 0,.undef,.nilp,.int .i32 0,.int .i32 0],.struct [(0,1),(1,1),(2,1),(3,1),(4,1),(5,1),(6,1),(7,1),(8,1),(9,1),(10,1)]⟩),
  (270,⟨11,true,[.int .u64 0,.int .u64 0,.int .u32 0,.int .u8 0,.int .u8 0,.int .u8 0,.int .u8 0,.undef,.nilp,.int .i32 0,.int .i32 0],.struct [(0,1),(1,1),(2,1),(3,1),(4,1),(5,1),(6,1),(7,1),(8,1),(9,1),(10,1)]⟩),
  (272,⟨2,true,[.str ⟨#[]⟩,.int .u8 0],.struct [(0,1),(1,1)]⟩)]
set_option maxRecDepth 100000 in
theorem tranT_ok:tabOkB Tryz.prog tranT=true:=by kernel_rfl
end Go.Abs
namespace Go.Abs
open Go.Proofs
set_option maxRecDepth 100000
def bodyOf(f:Func):Code:=f.body.getD .skip
def loopAt(f:Func) (k:Nat):Code:=(loopsOf (bodyOf f)).getD k .skip
def ptOf(l:List (Nat × List Nat × List Nat)):Pt:=fun i=>match l with
 | []=>none
 | p :: r=>bif Nat.beq p.1 i then some p.2 else ptOf r i
abbrev tW:Ty:=.int .u32
def V0:Env:={ T:=tryT,E:=[],Γ:=fun _=>none }
theorem i64_nat(n:Int) (h0:0<=n) (h1:n<9223372036854775808):IntKind.i64.wrap n=n:=wrap_small n h0 h1
def trimTo(xs:List Int):Nat->Nat
 | 0=>0
 | n+1=>if xs[n]? = some 0 then trimTo xs n else n+1
theorem trimTo_le(xs:List Int):∀ n,trimTo xs n<=n
 | 0=>Nat.le_refl _
 | n+1=>by
  unfold trimTo;split
  ·exact Nat.le_succ_of_le (trimTo_le xs n)
  ·exact Nat.le_refl _
def A226:Ann:={ head:=ptOf [(1,[0],[])],out:=ptOf [(1,[0],[])] }
theorem turn226(ρ:Type) (K:Exit->St->Option ρ) (go:St->Option ρ) (b:Option Bool) (xs:List tW.den) :
  turnF V0 A226 21 0 0 (loopAt Tryz.f182 0) K go ⟨[(0,one (.sl b tW xs))],[]⟩ =
 bif decide ((0:Int)<xs.length)then
  if 0<=IntKind.i64.wrap (xs.length-1)then
   (xs[(IntKind.i64.wrap (xs.length-1)).toNat]?).bind fun x =>
    bif bif true then((x:Int)==0)else false then
     if(0:Int)<=0/\0<=IntKind.i64.wrap (xs.length-1)/\IntKind.i64.wrap (xs.length-1)<=xs.length then
      go ⟨[(0,one (.sl b tW (cut xs 0 (IntKind.i64.wrap (xs.length-1)))))],[]⟩
     else none
    else K (Exit.exit 0) ⟨[(0,one (.sl b tW xs))],[]⟩
  else none
 else K (Exit.exit 0) ⟨[(0,one (.sl b tW xs))],[]⟩:=by kernel_rfl
theorem loop226(ρ:Type) (K:Exit->St->Option ρ) (b:Option Bool) (xs:List Int) (hx:xs.length<4611686018427387904):∀ m,m<=xs.length ->
  itF (turnF V0 A226 21 0 0 (loopAt Tryz.f182 0) K) (fun _=>none) (m+1) ⟨[(0,one (.sl b tW (xs.take m)))],[]⟩=K (Exit.exit 0) ⟨[(0,one (.sl b tW (xs.take (trimTo xs m))))],[]⟩:=by
 intro m
 induction m with
 | zero =>
  intro _;simp only [itF];rw[turn226];simp [trimTo]
 | succ m ih =>
  intro hm;rw[show itF (turnF V0 A226 21 0 0 (loopAt Tryz.f182 0) K) (fun _=>none) (m+1+1)=turnF V0 A226 21 0 0 (loopAt Tryz.f182 0) K (itF (turnF V0 A226 21 0 0 (loopAt Tryz.f182 0) K) (fun _=>none) (m+1))from rfl,turn226];have hl:(xs.take (m+1)).length=m+1:=by simp;omega
  have hw:IntKind.i64.wrap (((xs.take (m+1)).length:Int)-1)=m:=by rw[hl];rw[i64_nat] <;> omega
  have hg:(xs.take (m+1))[m]? = xs[m]?:=by simp
  obtain⟨x,hxm⟩:∃ x,xs[m]? = some x:=⟨_,List.getElem?_eq_getElem (by omega)⟩;rw[hw,hl];simp only [Int.toNat_natCast];have hc:cut (xs.take (m+1)) 0 m=xs.take m:=by simp [cut,List.take_take]
  have h1:decide ((0:Int)<((m+1:Nat):Int))=true:=decide_eq_true (by omega);rw[h1];simp only [cond_true];rw[if_pos (by omega)];have hg':(xs.take (m+1):List tW.den)[m]? = some x:=hg.trans hxm;rw[hg'];simp only [Option.bind_some];cases hx0:(x==(0:Int))with
  | true =>
   simp only [cond_true];rw[if_pos (by omega),hc,ih (by omega)];have:x=0:=by simpa using hx0
   subst this;simp [trimTo,hxm]
  | false =>
   simp only [cond_false];have:x≠0:=by simpa using hx0
   have:trimTo xs (m+1)=m+1:=by
    unfold trimTo;rw[if_neg (by rw[hxm];simpa using this)]
   rw[this]
def S226:Sum:=fun n0 ρ σ K=>match n0,σ with
 | 0,⟨[(0,.v false [.sl b (.int .u32) xs])],[]⟩=>bif Nat.blt xs.length 4611686018427387904 then K (.exit 0) ⟨[(0,one (.sl b tW (xs.take (trimTo xs xs.length))))],[]⟩else none
 | _,_=>none
def A226s:Ann:={ A226 with sum:=fun i=>bif Nat.beq i 1 then some S226 else none }
def trimmedO:Orc:=fun ρ args H cont=>match args,H with
 | [.v false [.sl b (.int .u32) xs]],[]=>bif Nat.blt xs.length 4611686018427387904 then cont (one (.sl b tW (xs.take (trimTo xs xs.length)))) []else none
 | _,_=>none
theorem run226(ρ:Type) (b:Option Bool) (xs:List tW.den) (cont:SV->HL->Option ρ) :
  runF V0 A226s 0 Tryz.f182 (bodyOf Tryz.f182) ρ [one (.sl b tW xs)] [] cont=bif Nat.blt xs.length 4611686018427387904 then cont (one (.sl b tW (xs.take (trimTo xs xs.length)))) []else none:=by kernel_rfl
theorem mixT:Tryz.prog.follows .mixedOrders=true:=Tryz.checked.mixed
theorem V0_ok(N:NumSem):EnvOK N Tryz.prog V0:={ T:=TabOk.of tryT_ok,E:=fun p hp=>(by cases hp),Γ:=fun f F h=>(by cases h) }
theorem SumsOK.none{N:NumSem} {P:Program} {A:Ann} {nt:Nat} {c:Code} (h:∀ i,A.sum i=none):SumsOK N P A nt c:=fun l _ S hs=>by rw[h]at hs;cases hs
theorem sum226(N:NumSem):SumOK N Tryz.prog 21 (loopAt Tryz.f182 0) S226:=
 SumOK.of_turns (V0_ok N) mixT (A:=A226) (SumsOK.none fun _=>rfl) fun n0 ρ σ K r h=>by
  unfold S226 at h;split at h
  ·rename_i b xs;cases hb:Nat.blt xs.length 4611686018427387904 with
   | false=>rw[hb]at h;contradiction
   | true =>
    rw[hb]at h;have hl:=loop226 ρ K b xs (Nat.le_of_ble_eq_true hb) xs.length (Nat.le_refl _);rw[List.take_length]at hl;exact⟨_,hl.trans h⟩
  ·contradiction
theorem orc226(N:NumSem):OrcOK N Tryz.prog 182 trimmedO:=
 OrcOK.of_tale (runF_ok (V0_ok N) mixT (A:=A226s) (fuel:=0) Tryz.func182 (c:=bodyOf Tryz.f182) (by kernel_rfl) (fun l hl S hS=>by
  rw[show loopsOf (bodyOf Tryz.f182)=[loopAt Tryz.f182 0]by kernel_rfl]at hl;have:=List.mem_singleton.1 hl;subst this;rw[show A226s.sum (fid (loopAt Tryz.f182 0))=some S226 by kernel_rfl]at hS;cases hS;exact sum226 N)) fun ρ args H cont r h=>by
  unfold trimmedO at h;split at h
  ·rename_i b xs;exact(run226 ρ b xs cont).trans h
  ·contradiction
end Go.Abs
namespace Go.Abs
def okW(xs:List Int):Prop:=∀ x∈xs,0<=x/\x<4294967296
def val:List Int->Int
 | []=>0
 | x :: r=>x+4294967296*val r
theorem okW_cons{x:Int} {r:List Int}:okW (x :: r) ↔ (0<=x/\x<4294967296)/\okW r:=by simp [okW]
theorem val_nonneg:∀ {xs:List Int},okW xs->0<=val xs
 | [],_=>Int.le_refl _
 | x :: r,h=>by
  have:=val_nonneg (okW_cons.1 h).2;have:=(okW_cons.1 h).1;simp only [val];omega
def wordsF:Nat->Nat->List Int
 | 0,_=>[]
 | f+1,n=>if n=0 then []else((n % 4294967296:Nat):Int) :: wordsF f (n / 4294967296)
def words(n:Nat):List Int:=wordsF n n
theorem wordsF_enough:∀ (f n:Nat),n<=f->wordsF f n=words n:=by
 intro f
 induction f using Nat.strongRecOn with
 | _ f ih =>
  intro n hn;cases f with
  | zero =>
   have:n=0:=by omega
   subst this;rfl
  | succ f =>
   cases n with
   | zero=>rfl
   | succ n =>
    unfold words;simp only [wordsF];rw[if_neg (by omega),if_neg (by omega)];have h1:(n+1) / 4294967296<=n:=by omega
    rw[ih f (by omega) _ (by omega),ih n (by omega) _ h1]
theorem words_eq(n:Nat):words n=if n=0 then []else((n % 4294967296:Nat):Int) :: words (n / 4294967296):=by
 cases n with
 | zero=>rfl
 | succ n =>
  rw[if_neg (by omega)];show wordsF (n+1) (n+1)=_;simp only [wordsF];rw[if_neg (by omega),wordsF_enough];omega
theorem words_ok:∀ (n:Nat),okW (words n):=by
 intro n
 induction n using Nat.strongRecOn with
 | _ n ih =>
  rw[words_eq];split
  ·intro x hx;cases hx
  ·rw[okW_cons];exact⟨by omega,ih _ (by omega)⟩
theorem val_words:∀ (n:Nat),val (words n)=n:=by
 intro n
 induction n using Nat.strongRecOn with
 | _ n ih =>
  rw[words_eq];split
  ·rename_i h;subst h;rfl
  ·simp only [val];rw[ih _ (by omega)];omega
def trimS:List Int->List Int
 | []=>[]
 | x :: r=>match trimS r with
  | []=>if x=0 then []else [x]
  | y :: l=>x :: y :: l
theorem trimS_words:∀ {xs:List Int},okW xs->trimS xs=words (val xs).toNat
 | [],_=>rfl
 | x :: r,h=>by
  obtain⟨h1,h2⟩:=okW_cons.1 h;have ih:=trimS_words h2;have hv:=val_nonneg h2;have hn:(val (x :: r)).toNat=x.toNat+4294967296*(val r).toNat:=by simp only [val];omega
  have e1:(x.toNat+4294967296*(val r).toNat) / 4294967296=(val r).toNat:=by omega
  have e2:(((x.toNat+4294967296*(val r).toNat) % 4294967296:Nat):Int)=x:=by omega
  have hr:words (x.toNat+4294967296*(val r).toNat)=if x.toNat+4294967296*(val r).toNat=0 then []else x :: words (val r).toNat:=by rw[words_eq,e1,e2]
  rw[hn,hr];simp only [trimS];rw[ih]
  by_cases hz:(val r).toNat=0
  ·have:words (val r).toNat=[]:=by rw[hz];rfl
   rw[this];simp only
   by_cases hx:x=0
   ·rw[if_pos hx,if_pos (by omega)]
   ·rw[if_neg hx,if_neg (by omega)]
  ·rw[if_neg (show ¬ (x.toNat+4294967296*(val r).toNat=0)by omega)];have:words (val r).toNat ≠ []:=by rw[words_eq,if_neg hz];simp
   cases hw:words (val r).toNat with
   | nil=>exact absurd hw this
   | cons y l=>rfl
theorem words_length{n k:Nat} (h:n<4294967296 ^ k):(words n).length<=k:=by
 induction k generalizing n with
 | zero =>
  have:n=0:=by simpa using h
  subst this;simp [words,wordsF]
 | succ k ih =>
  rw[words_eq];split
  ·simp
  ·have:n / 4294967296<4294967296 ^ k:=by
    rw[Nat.div_lt_iff_lt_mul (by omega)];rw[Nat.pow_succ]at h;exact h
   have:=ih this;simp;omega
theorem val_lt:∀ {xs:List Int},okW xs->val xs<4294967296 ^ xs.length
 | [],_=>by simp [val]
 | x :: r,h=>by
  obtain⟨h1,h2⟩:=okW_cons.1 h;have:=val_lt h2;simp only [val,List.length_cons,Int.pow_succ];omega
def addN:Nat->Int->List Int->List Int->List Int
 | 0,_,_,_=>[]
 | n+1,c,xs,ys =>
  let s:=c+xs.headD 0+ys.headD 0
  (s % 4294967296) :: addN n (s / 4294967296) xs.tail ys.tail
theorem addN_ok:∀ (n:Nat) (c:Int) (xs ys:List Int),okW (addN n c xs ys)
 | 0,_,_,_=>by intro x hx;cases hx
 | n+1,c,xs,ys=>by
  simp only [addN];rw[okW_cons];exact⟨by omega,addN_ok n _ _ _⟩
theorem addN_val:∀ (n:Nat) (c:Int) (xs ys:List Int),okW xs->okW ys->0<=c->c<=1->xs.length<n->ys.length<n->val (addN n c xs ys)=c+val xs+val ys
 | 0,c,xs,ys,_,_,_,_,h,_=>by omega
 | n+1,c,xs,ys,hx,hy,h0,h1,hl,hl'=>by
  have key:∀ (x y:Int) (r s:List Int),(0<=x/\x<4294967296)->(0<=y/\y<4294967296)->okW r->okW s->(r.length<n/\s.length<n\/(n=0/\r=[]/\s=[]/\x=0/\y=0)) ->
    (c+x+y) % 4294967296+4294967296*val (addN n ((c+x+y) / 4294967296) r s)=c+(x+4294967296*val r)+(y+4294967296*val s):=by
   intro x y r s hx hy hr hs hl;rcases hl with ⟨l1,l2⟩ | ⟨rfl,rfl,rfl,rfl,rfl⟩
   ·rw[addN_val n _ r s hr hs (by omega) (by omega) l1 l2];omega
   ·simp [addN,val];omega
  cases xs with
  | nil =>
   cases ys with
   | nil =>
    simp only [addN,val,List.headD_nil,List.tail_nil];have:=key 0 0 [] [] (by omega) (by omega) (by simp [okW]) (by simp [okW]) (by
     by_cases hn:n=0
     ·exact .inr ⟨hn,rfl,rfl,rfl,rfl⟩
     ·exact .inl ⟨by simp;omega,by simp;omega⟩)
    simpa [val] using this
   | cons y s =>
    obtain⟨a1,a2⟩:=okW_cons.1 hy;simp only [List.length_cons]at hl';simp only [addN,val,List.headD_nil,List.tail_nil,List.headD_cons,List.tail_cons];have:=key 0 y [] s (by omega) a1 (by simp [okW]) a2 (.inl ⟨by simp;omega,by omega⟩)
    simpa [val] using this
  | cons x r =>
   obtain⟨b1,b2⟩:=okW_cons.1 hx;simp only [List.length_cons]at hl;cases ys with
   | nil =>
    simp only [addN,val,List.headD_nil,List.tail_nil,List.headD_cons,List.tail_cons];have:=key x 0 r [] b1 (by omega) b2 (by simp [okW]) (.inl ⟨by omega,by simp;omega⟩)
    simpa [val] using this
   | cons y s =>
    obtain⟨a1,a2⟩:=okW_cons.1 hy;simp only [List.length_cons]at hl';simp only [addN,val,List.headD_cons,List.tail_cons];exact key x y r s b1 a1 b2 a2 (.inl ⟨by omega,by omega⟩)
end Go.Abs
namespace Go.Abs
open Go.Proofs
set_option maxRecDepth 100000
theorem trimTo_cons(x:Int) (r:List Int):∀ n,trimTo (x :: r) (n+1)=if trimTo r n=0 then(if x=0 then 0 else 1)else trimTo r n+1
 | 0=>by
  unfold trimTo;simp only [List.getElem?_cons_zero,Option.some.injEq];rfl
 | n+1=>by
  rw[trimTo,List.getElem?_cons_succ,trimTo_cons x r n];show _=if(if r[n]? = some 0 then trimTo r n else n+1)=0 then _ else(if r[n]? = some 0 then trimTo r n else n+1)+1
  by_cases h:r[n]? = some 0
  ·simp only [h,if_true]
  ·simp only [h,if_false];simp
theorem take_trimTo:∀ (xs:List Int),xs.take (trimTo xs xs.length)=trimS xs
 | []=>rfl
 | x :: r=>by
  have ih:=take_trimTo r;rw[List.length_cons,trimTo_cons];simp only [trimS]
  by_cases h:trimTo r r.length=0
  ·rw[h]at ih;rw[if_pos h,<- ih];simp only [List.take_zero];split <;> simp
  ·rw[if_neg h,List.take_succ_cons,ih];have hne:trimS r ≠ []:=by
    rw[<- ih];intro e;have h1:=congrArg List.length e;rw[List.length_take,Nat.min_eq_left (trimTo_le r r.length)]at h1;exact h h1
   cases hw:trimS r with
   | nil=>exact absurd hw hne
   | cons y l=>rfl
theorem trim_words{xs:List Int} (h:okW xs):xs.take (trimTo xs xs.length)=words (val xs).toNat:=(take_trimTo xs).trans (trimS_words h)
instance (xs:List Int):Decidable (okW xs):=by unfold okW;infer_instance
theorem u64_id(n:Int) (h0:0<=n) (h1:n<18446744073709551616):IntKind.u64.wrap n=n:=by rw[IntKind.wrap_u64];omega
def A212:Ann:={ head:=ptOf [(3,[0,1,5,6,16,17],[])],out:=ptOf [(3,[5],[5])] }
def σ212(b b':Option Bool) (xs ys zs:List tW.den) (c n i:Int):St:=
 ⟨[(0,one (.sl b tW xs)),(1,one (.sl b' tW ys)),(5,one (.wsl 0 1)),(6,one (.int .u64 c)),(16,one (.int .i64 n)),(17,one (.int .i64 i))],[.arr 162 tW zs false true]⟩
section
variable {ρ:Type} (K:Exit->St->Option ρ) (go:St->Option ρ) (b b':Option Bool) (xs ys zs:List tW.den) (c n i:Int)
def fin212(s:Int):Option ρ:=
 if 0<=i/\i<zs.length then(zs[0+i.toNat]?).bind fun _=>go (σ212 b b' xs ys (zs.set (0+i.toNat) (IntKind.u32.wrap s)) (s.fdiv (2 ^ min (Int.toNat 32) IntKind.u64.bits)) n (IntKind.i64.wrap (i+1)))else none
def mid212(s:Int):Option ρ:=
 bif decide (i<ys.length)then(if 0<=i then(ys[i.toNat]?).bind fun y=>fin212 go b b' xs ys zs n i (IntKind.u64.wrap (s+IntKind.u64.wrap y))else none)else fin212 go b b' xs ys zs n i s
theorem turn212:turnF V0 A212 52 0 0 (loopAt Tryz.f155 0) K go (σ212 b b' xs ys zs c n i) =
  bif decide (i<n)then(bif decide (i<xs.length)then(if 0<=i then(xs[i.toNat]?).bind fun x=>mid212 go b b' xs ys zs n i (IntKind.u64.wrap (c+IntKind.u64.wrap x))else none)else mid212 go b b' xs ys zs n i c)
  else K (.exit 0) ⟨[(5,one (.sl (some false) tW zs))],[]⟩:=by kernel_rfl
end
theorem getD_drop(xs:List Int) (i:Nat):(xs.drop i).headD 0=(xs[i]?).getD 0:=by
 induction xs generalizing i with
 | nil=>simp
 | cons x r ih =>
  cases i with
  | zero=>rfl
  | succ i=>simp
theorem loop212{ρ:Type} (K:Exit->St->Option ρ) (b b':Option Bool) (xs ys:List tW.den) (hx:okW xs) (hy:okW ys) (N:Nat) (hN:N<4611686018427387904):∀ (m i:Nat) (zs:List tW.den) (c:Int),i+m=N->zs.length=N->0<=c->c<=1 ->
  itF (turnF V0 A212 52 0 0 (loopAt Tryz.f155 0) K) (fun _=>none) (m+1) (σ212 b b' xs ys zs c N i)=K (.exit 0) ⟨[(5,one (.sl (some false) tW (zs.take i++addN m c (xs.drop i) (ys.drop i))))],[]⟩:=by
 intro m
 induction m with
 | zero =>
  intro i zs c hi hz h0 h1;simp only [itF];rw[turn212];have:decide ((i:Int)<(N:Int))=false:=decide_eq_false (by omega);rw[this];simp only [cond_false,addN,List.append_nil];rw[List.take_of_length_le (by omega)]
 | succ m ih =>
  intro i zs c hi hz h0 h1;rw[show itF (turnF V0 A212 52 0 0 (loopAt Tryz.f155 0) K) (fun _=>none) (m+1+1)=turnF V0 A212 52 0 0 (loopAt Tryz.f155 0) K (itF (turnF V0 A212 52 0 0 (loopAt Tryz.f155 0) K) (fun _=>none) (m+1))from rfl,turn212];have:decide ((i:Int)<(N:Int))=true:=decide_eq_true (by omega);rw[this];simp only [cond_true];have hfin:∀ s:Int,0<=s->s<8589934592->fin212 (itF (turnF V0 A212 52 0 0 (loopAt Tryz.f155 0) K) (fun _=>none) (m+1)) b b' xs ys zs N i s =
    K (.exit 0) ⟨[(5,one (.sl (some false) tW (zs.take i++((s % 4294967296) :: addN m (s / 4294967296) (xs.drop (i+1)) (ys.drop (i+1))))))],[]⟩:=by
   intro s hs0 hs1;unfold fin212;rw[if_pos (by omega),Int.toNat_natCast,Nat.zero_add,List.getElem?_eq_getElem (by omega)];simp only [Option.bind_some];have e1:IntKind.i64.wrap ((i:Int)+1)=((i+1:Nat):Int):=by rw[i64_nat] <;> omega
   have e2:IntKind.u32.wrap s=s % 4294967296:=IntKind.wrap_u32 s;have e3:s.fdiv (2 ^ min (Int.toNat 32) IntKind.u64.bits)=s / 4294967296:=by
    rw[show (2:Int) ^ min (Int.toNat 32) IntKind.u64.bits=4294967296 by decide];rw[Int.fdiv_eq_ediv_of_nonneg _ (by decide)]
   rw[e1,e2,e3,ih (i+1) _ _ (by omega) (by simpa using hz) (by omega) (by omega)];congr 5;have:List.take (i+1) (zs.set i (s % 4294967296))=zs.take i ++ [s % 4294967296]:=by
    rw[List.take_add_one,List.take_set_of_le (Nat.le_refl _),List.getElem?_set_self (by omega)];rfl
   rw[this];simp
  have hmid:∀ s:Int,0<=s->s<4294967297->mid212 (itF (turnF V0 A212 52 0 0 (loopAt Tryz.f155 0) K) (fun _=>none) (m+1)) b b' xs ys zs N i s =
    K (.exit 0) ⟨[(5,one (.sl (some false) tW (zs.take i++(((s+(ys.drop i).headD 0) % 4294967296) :: addN m ((s+(ys.drop i).headD 0) / 4294967296) (xs.drop (i+1)) (ys.drop (i+1))))))],[]⟩:=by
   intro s hs0 hs1;unfold mid212;rw[getD_drop]
   by_cases hy':i<ys.length
   ·have hd:decide ((i:Int)<(ys.length:Int))=true:=decide_eq_true (by omega);rw[hd];simp only [cond_true];rw[if_pos (by omega),Int.toNat_natCast,List.getElem?_eq_getElem hy'];simp only [Option.bind_some,Option.getD_some];have hb:=hy _ (List.getElem_mem hy');rw[u64_id _ hb.1 (by omega),u64_id _ (by omega) (by omega),hfin _ (by omega) (by omega)]
   ·have hd:decide ((i:Int)<(ys.length:Int))=false:=decide_eq_false (by omega);rw[hd];simp only [cond_false];rw[List.getElem?_eq_none (by omega)];simp only [Option.getD_none,Int.add_zero];rw[hfin _ (by omega) (by omega)]
  have hres:∀ s:Int,s=c+(xs.drop i).headD 0->K (.exit 0) ⟨[(5,one (.sl (some false) tW (zs.take i++(((s+(ys.drop i).headD 0) % 4294967296) :: addN m ((s+(ys.drop i).headD 0) / 4294967296) (xs.drop (i+1)) (ys.drop (i+1))))))],[]⟩ =
    K (.exit 0) ⟨[(5,one (.sl (some false) tW (zs.take i++addN (m+1) c (xs.drop i) (ys.drop i))))],[]⟩:=by
   intro s hs;subst hs;simp only [addN,List.tail_drop]
  by_cases hx':i<xs.length
  ·have hd:decide ((i:Int)<(xs.length:Int))=true:=decide_eq_true (by omega);rw[hd];simp only [cond_true];rw[if_pos (by omega),Int.toNat_natCast,List.getElem?_eq_getElem hx'];simp only [Option.bind_some];have hb:=hx _ (List.getElem_mem hx');rw[u64_id _ hb.1 (by omega),u64_id _ (by omega) (by omega),hmid _ (by omega) (by omega)];exact hres _ (by rw[getD_drop,List.getElem?_eq_getElem hx'];rfl)
  ·have hd:decide ((i:Int)<(xs.length:Int))=false:=decide_eq_false (by omega);rw[hd];simp only [cond_false];rw[hmid _ (by omega) (by omega)];exact hres _ (by rw[getD_drop,List.getElem?_eq_none (by omega)];simp)
def S212:Sum:=fun n0 ρ σ K=>match n0,σ with
 | 0,⟨[(0,.v false [.sl b (.int .u32) xs]),(1,.v false [.sl b' (.int .u32) ys]),(5,.v false [.wsl 0 1]),(6,.v false [.int .u64 c]),(16,.v false [.int .i64 n]),(17,.v false [.int .i64 i])],[.arr el (.int .u32) zs false true]⟩ =>
  if el=162/\c=0/\i=0/\n=zs.length/\zs.length<4611686018427387904/\okW xs/\okW ys then K (.exit 0) ⟨[(5,one (.sl (some false) tW (addN zs.length 0 xs ys)))],[]⟩else none
 | _,_=>none
theorem sum212(N:NumSem):SumOK N Tryz.prog 52 (loopAt Tryz.f155 0) S212:=
 SumOK.of_turns (V0_ok N) mixT (A:=A212) (SumsOK.none fun _=>rfl) fun n0 ρ σ K r h=>by
  unfold S212 at h;split at h
  ·rename_i b xs b' ys c n i el zs;split at h
   ·rename_i hc;obtain⟨rfl,rfl,rfl,rfl,hz,hx,hy⟩:=hc;have hl:=loop212 K b b' xs ys hx hy zs.length hz zs.length 0 zs 0 (by omega) rfl (by omega) (by omega);simp only [List.take_zero,List.nil_append,List.drop_zero]at hl;exact⟨_,hl.trans h⟩
   ·contradiction
  ·contradiction
def V1:Env:={ T:=tryT,E:=[],Γ:=fun f=>bif Nat.beq f 182 then some trimmedO else none }
theorem V1_ok(N:NumSem):EnvOK N Tryz.prog V1:=
 {T:=TabOk.of tryT_ok,E:=fun p hp=>(by cases hp),Γ:=fun f F h=>by
   unfold V1 at h;simp only at h;cases hb:Nat.beq f 182 with
   | false=>rw[hb]at h;cases h
   | true =>
    rw[hb]at h;cases h;rw[Nat.eq_of_beq_eq_true hb];exact⟨orc226 N,Tryz.call182⟩ }
def A212s:Ann:={ A212 with sum:=fun i=>bif Nat.beq i 3 then some S212 else none }
def addMagO:Orc:=fun ρ args H cont=>match args,H with
 | [.v false [.sl b (.int .u32) xs],.v false [.sl b' (.int .u32) ys]],[] =>
  if xs.length<1000000000000/\ys.length<1000000000000/\okW xs/\okW ys then cont (one (.sl (some false) tW (words (val xs+val ys).toNat))) []else none
 | _,_=>none
theorem run212(ρ:Type) (b b':Option Bool) (xs ys:List tW.den) (cont:SV->HL->Option ρ):runF V1 A212s 0 Tryz.f155 (bodyOf Tryz.f155) ρ [one (.sl b tW xs),one (.sl b' tW ys)] [] cont =
  (let m:Int:=if(ys.length:Int) > xs.length then ys.length else xs.length
   let l:=IntKind.i64.wrap (m+1)
   let zs:List tW.den:=List.replicate l.toNat 0
   if 0<=l/\l<=l/\l<=70368744177664/\l*(4:Nat)<=70368744177664 then
   (if 162=162/\(0:Int)=0/\(0:Int)=0/\(zs.length:Int)=zs.length/\zs.length<4611686018427387904/\okW xs/\okW ys then
    (let rs:List tW.den:=addN zs.length 0 xs ys
     bif Nat.blt rs.length 4611686018427387904 then cont (one (.sl (some false) tW (rs.take (trimTo rs rs.length)))) []else none)else none)
   else none):=by kernel_rfl
theorem addN_length:∀ (n:Nat) (c:Int) (xs ys:List Int),(addN n c xs ys).length=n
 | 0,_,_,_=>rfl
 | n+1,c,xs,ys=>by simp [addN,addN_length n]
theorem sums1{N:NumSem} {P:Program} {A:Ann} {nt:Nat} {c l:Code} {S:Sum} (hl:loopsOf c=[l]) (hs:A.sum (fid l)=some S) (h:SumOK N P nt l S):SumsOK N P A nt c:=fun l' hl' S' hS'=>by
 rw[hl]at hl';have:=List.mem_singleton.1 hl';subst this;rw[hs]at hS';cases hS';exact h
theorem orc212(N:NumSem):OrcOK N Tryz.prog 155 addMagO:=
 OrcOK.of_tale (runF_ok (V1_ok N) mixT (A:=A212s) (fuel:=0) Tryz.func155 (c:=bodyOf Tryz.f155) (by kernel_rfl)
  (sums1 (l:=loopAt Tryz.f155 0) (S:=S212) (by kernel_rfl) (by kernel_rfl) (sum212 N))) fun ρ args H cont r h=>by
  unfold addMagO at h;split at h
  ·rename_i b xs b' ys;split at h
   ·rename_i hc;obtain⟨h1,h2,hx,hy⟩:=hc;refine(run212 ρ b b' xs ys cont).trans ?_;simp only;have hm:∃ m:Nat,(if(ys.length:Int) > xs.length then(ys.length:Int)else xs.length)=m/\xs.length<=m/\ys.length<=m/\m<1000000000000:=by
     split
     ·exact⟨ys.length,rfl,by omega,by omega,by omega⟩
     ·exact⟨xs.length,rfl,by omega,by omega,by omega⟩
    obtain⟨m,hm,m1,m2,m3⟩:=hm;rw[hm];have hl:IntKind.i64.wrap ((m:Int)+1)=((m+1:Nat):Int):=by rw[i64_nat] <;> omega
    rw[hl,if_pos (by omega),Int.toNat_natCast];have hzl:(List.replicate (m+1) (0:Int)).length=m+1:=List.length_replicate;have hzl':(List.replicate (m+1) (0:Int):List tW.den).length=m+1:=List.length_replicate;rw[hzl',if_pos ⟨trivial,trivial,trivial,trivial,by omega,hx,hy⟩,addN_length];have hb:Nat.blt (m+1) 4611686018427387904=true:=Nat.ble_eq_true_of_le (show m+1+1<=4611686018427387904 by omega);rw[hb];simp only [cond_true];have hw:=trim_words (addN_ok (m+1) 0 xs ys);rw[addN_length,addN_val (m+1) 0 xs ys hx hy (by omega) (by omega) (by omega) (by omega)]at hw;have hw':(addN (m+1) 0 xs ys:List tW.den).take (trimTo (addN (m+1) 0 xs ys) (m+1))=words (val xs+val ys).toNat:=by
     rw[hw,Int.zero_add]
    rw[hw'];exact h
   ·contradiction
  ·contradiction
end Go.Abs
namespace Go.Abs
open Go.Proofs
set_option maxRecDepth 100000
theorem val_append:∀ (xs ys:List Int),val (xs++ys)=val xs+4294967296 ^ xs.length*val ys
 | [],ys=>by simp [val]
 | x :: r,ys=>by
  simp only [List.cons_append,val,List.length_cons,Int.pow_succ];rw[val_append r ys,Int.mul_add,<- Int.mul_assoc,Int.mul_comm 4294967296 (4294967296 ^ r.length)];omega
theorem okW_take{xs:List Int} (h:okW xs) (n:Nat):okW (xs.take n):=fun x hx=>h x (List.mem_of_mem_take hx)
theorem val_take_succ{xs:List Int} {m:Nat} {x:Int} (h:xs[m]? = some x):val (xs.take (m+1))=val (xs.take m)+4294967296 ^ m*x:=by
 obtain⟨hm,_⟩:=List.getElem?_eq_some_iff.1 h;rw[List.take_add_one,h,val_append];simp only [List.length_take,Nat.min_eq_left (Nat.le_of_lt hm),Option.toList,val];simp
def A209:Ann:={ head:=ptOf [(4,[0,1,5],[])],out:=ptOf [(4,[4],[])] }
def σ209(b b':Option Bool) (xs ys:List tW.den) (i:Int):St:=⟨[(0,one (.sl b tW xs)),(1,one (.sl b' tW ys)),(5,one (.int .i64 i))],[]⟩
theorem turn209{ρ:Type} (K:Exit->St->Option ρ) (go:St->Option ρ) (b b':Option Bool) (xs ys:List tW.den) (i:Int) :
  turnF V0 A209 43 0 0 (loopAt Tryz.f150 0) K go (σ209 b b' xs ys i) =
  bif decide (0<=i)then
   (if 0<=i then(xs[i.toNat]?).bind fun x=>if 0<=i then(ys[i.toNat]?).bind fun y=>bif decide ((x:Int)<y)then K .ret ⟨[(4,one (.int .i64 (-1)))],[]⟩else
    (if 0<=i then(xs[i.toNat]?).bind fun x=>if 0<=i then(ys[i.toNat]?).bind fun y=>bif decide ((y:Int)<x)then K .ret ⟨[(4,one (.int .i64 1))],[]⟩else go (σ209 b b' xs ys (IntKind.i64.wrap (i-1)))else none else none)else none else none)
  else K (.exit 0) ⟨[(4,.undef)],[]⟩:=by kernel_rfl
theorem loop209{ρ:Type} (K:Exit->St->Option ρ) (b b':Option Bool) (xs ys:List tW.den) (hx:okW xs) (hy:okW ys) (hl:xs.length=ys.length) (hN:xs.length<4611686018427387904):∀ (m:Nat),m<=xs.length ->
  itF (turnF V0 A209 43 0 0 (loopAt Tryz.f150 0) K) (fun _=>none) (m+1) (σ209 b b' xs ys ((m:Int)-1)) =
   if val (xs.take m)<val (ys.take m)then K .ret ⟨[(4,one (.int .i64 (-1)))],[]⟩else if val (ys.take m)<val (xs.take m)then K .ret ⟨[(4,one (.int .i64 1))],[]⟩else K (.exit 0) ⟨[(4,.undef)],[]⟩:=by
 intro m
 induction m with
 | zero =>
  intro _;simp only [itF];rw[turn209,show decide (0<=(((0:Nat):Int)-1))=false from rfl];simp
 | succ m ih =>
  intro hm;rw[show itF (turnF V0 A209 43 0 0 (loopAt Tryz.f150 0) K) (fun _=>none) (m+1+1)=turnF V0 A209 43 0 0 (loopAt Tryz.f150 0) K (itF (turnF V0 A209 43 0 0 (loopAt Tryz.f150 0) K) (fun _=>none) (m+1))from rfl,turn209];have e0:((m+1:Nat):Int)-1=m:=by omega
  rw[e0];have hd:decide (0<=(m:Int))=true:=decide_eq_true (by omega);rw[hd];simp only [cond_true];have hm1:m<xs.length:=hm;have hm2:m<ys.length:=by omega
  have hp:0<=(m:Int):=by omega
  simp only [if_pos hp,Int.toNat_natCast,List.getElem?_eq_getElem hm1,List.getElem?_eq_getElem hm2,Option.bind_some];have vx:=val_take_succ (List.getElem?_eq_getElem hm1);have vy:=val_take_succ (List.getElem?_eq_getElem hm2);have bx:=hx _ (List.getElem_mem hm1);have by':=hy _ (List.getElem_mem hm2)
  have tx0:=val_nonneg (okW_take hx m);have ty0:=val_nonneg (okW_take hy m);have tx1:=val_lt (okW_take hx m);have ty1:=val_lt (okW_take hy m);rw[List.length_take,Nat.min_eq_left (by omega)]at tx1 ty1;generalize (xs[m]:Int)=x at *;generalize (ys[m]:Int)=y at *;rw[vx,vy];generalize hA:val (xs.take m)=A at *;generalize hB:val (ys.take m)=B at *;generalize hP:(4294967296:Int) ^ m=P at *;have hP0:0<P:=by rw[<- hP];exact Int.pow_pos (by decide)
  have mono:∀ u v:Int,u<v->P*u+P<=P*v:=fun u v h=>by
   have:=Int.mul_le_mul_of_nonneg_left (show u+1<=v by omega) (Int.le_of_lt hP0);rw[Int.mul_add,Int.mul_one]at this;exact this
  by_cases h1:x<y
  ·rw[decide_eq_true h1];simp only [cond_true];have:=mono x y h1;rw[if_pos (show A+P*x<B+P*y by omega)]
  ·rw[decide_eq_false h1];simp only [cond_false]
   by_cases h2:y<x
   ·rw[decide_eq_true h2];simp only [cond_true];have:=mono y x h2;rw[if_neg (show ¬ (A+P*x<B+P*y)by omega),if_pos (show B+P*y<A+P*x by omega)]
   ·rw[decide_eq_false h2];simp only [cond_false];have:x=y:=Int.le_antisymm (Int.not_lt.1 h2) (Int.not_lt.1 h1);subst this;have e1:IntKind.i64.wrap ((m:Int)-1)=(m:Int)-1:=by rw[IntKind.wrap_i64];omega
    rw[e1,ih (by omega)];have q1:(A+P*x<B+P*x) ↔ A<B:=by omega
    have q2:(B+P*x<A+P*x) ↔ B<A:=by omega
    simp only [q1,q2]
def S209:Sum:=fun n0 ρ σ K=>match n0,σ with
 | 0,⟨[(0,.v false [.sl b (.int .u32) xs]),(1,.v false [.sl b' (.int .u32) ys]),(5,.v false [.int .i64 i])],[]⟩ =>
  if i=(xs.length:Int)-1/\xs.length=ys.length/\xs.length<4611686018427387904/\okW xs/\okW ys then
   (if val xs<val ys then K .ret ⟨[(4,one (.int .i64 (-1)))],[]⟩else if val ys<val xs then K .ret ⟨[(4,one (.int .i64 1))],[]⟩else K (.exit 0) ⟨[(4,.undef)],[]⟩)else none
 | _,_=>none
theorem sum209(N:NumSem):SumOK N Tryz.prog 43 (loopAt Tryz.f150 0) S209:=
 SumOK.of_turns (V0_ok N) mixT (A:=A209) (SumsOK.none fun _=>rfl) fun n0 ρ σ K r h=>by
  unfold S209 at h;split at h
  ·rename_i b xs b' ys i;split at h
   ·rename_i hc;obtain⟨rfl,hl,hz,hx,hy⟩:=hc;have h1:=loop209 K b b' xs ys hx hy hl hz xs.length (Nat.le_refl _);rw[List.take_length,hl,List.take_length,<- hl]at h1;exact⟨_,h1.trans h⟩
   ·contradiction
  ·contradiction
def cmpR(xs ys:List Int):Int:=if xs.length=ys.length then(if val xs<val ys then -1 else if val ys<val xs then 1 else 0)else(xs.length:Int)-ys.length
def A209s:Ann:={ A209 with sum:=fun i=>bif Nat.beq i 4 then some S209 else none }
def cmpMagO:Orc:=fun ρ args H cont=>match args,H with
 | [.v false [.sl b (.int .u32) xs],.v false [.sl b' (.int .u32) ys]],[] =>
  if xs.length<1000000000000/\ys.length<1000000000000/\okW xs/\okW ys then cont (one (.int .i64 (cmpR xs ys))) []else none
 | _,_=>none
theorem run209(ρ:Type) (b b':Option Bool) (xs ys:List tW.den) (cont:SV->HL->Option ρ):runF V0 A209s 0 Tryz.f150 (bodyOf Tryz.f150) ρ [one (.sl b tW xs),one (.sl b' tW ys)] [] cont =
  bif (xs.length:Int) != ys.length then cont (one (.int .i64 (IntKind.i64.wrap ((xs.length:Int)-ys.length)))) []
  else(if IntKind.i64.wrap ((xs.length:Int)-1)=(xs.length:Int)-1/\xs.length=ys.length/\xs.length<4611686018427387904/\okW xs/\okW ys then
   (if val xs<val ys then cont (one (.int .i64 (-1))) []else if val ys<val xs then cont (one (.int .i64 1)) []else cont (one (.int .i64 0)) [])else none):=by kernel_rfl
theorem orc209(N:NumSem):OrcOK N Tryz.prog 150 cmpMagO:=
 OrcOK.of_tale (runF_ok (V0_ok N) mixT (A:=A209s) (fuel:=0) Tryz.func150 (c:=bodyOf Tryz.f150) (by kernel_rfl)
  (sums1 (l:=loopAt Tryz.f150 0) (S:=S209) (by kernel_rfl) (by kernel_rfl) (sum209 N))) fun ρ args H cont r h=>by
  unfold cmpMagO at h;split at h
  ·rename_i b xs b' ys;split at h
   ·rename_i hc;obtain⟨h1,h2,hx,hy⟩:=hc;refine(run209 ρ b b' xs ys cont).trans (Eq.trans ?_ h);unfold cmpR
    by_cases hl:xs.length=ys.length
    ·have hb:((xs.length:Int) != ys.length)=false:=by simp [hl]
     rw[hb];simp only [cond_false];rw[if_pos ⟨by rw[IntKind.wrap_i64];omega,hl,by omega,hx,hy⟩,if_pos hl];split
     ·rfl
     ·split <;> rfl
    ·have hb:((xs.length:Int) != ys.length)=true:=by simp;omega
     rw[hb];simp only [cond_true];have e:IntKind.i64.wrap ((xs.length:Int)-ys.length)=(xs.length:Int)-ys.length:=by rw[IntKind.wrap_i64];omega
     rw[if_neg hl,e]
   ·contradiction
  ·contradiction
theorem words_mono{a b:Nat}:a<=b->(words a).length<=(words b).length:=by
 induction b using Nat.strongRecOn generalizing a with
 | _ b ih =>
  intro h;rw[words_eq a,words_eq b]
  by_cases ha:a=0
  ·simp [ha]
  ·rw[if_neg ha,if_neg (by omega)];simp only [List.length_cons];have:=ih (b / 4294967296) (by omega) (a:=a / 4294967296) (Nat.div_le_div_right h);omega
theorem cmpR_words(a b:Nat):(cmpR (words a) (words b)<0 ↔ a<b)/\(cmpR (words a) (words b)=0 ↔ a=b):=by
 unfold cmpR;rw[val_words,val_words];rcases Nat.lt_trichotomy a b with h | h | h
 ·have:=words_mono (Nat.le_of_lt h)
  by_cases hl:(words a).length=(words b).length
  ·rw[if_pos hl,if_pos (by omega)];omega
  ·rw[if_neg hl];omega
 ·subst h;simp
 ·have:=words_mono (Nat.le_of_lt h)
  by_cases hl:(words a).length=(words b).length
  ·rw[if_pos hl,if_neg (by omega),if_pos (by omega)];omega
  ·rw[if_neg hl];omega
end Go.Abs
namespace Go.Abs
open Go.Proofs
set_option maxRecDepth 100000
theorem bits_u32(a b:Nat) (ha:a<2 ^ 32) (hb:b<2 ^ 32) :
  bits .and .u32 a b=((a &&& b:Nat):Int)/\bits .or .u32 a b=((a ||| b:Nat):Int)/\bits .xor .u32 a b=((a ^^^ b:Nat):Int):=by
 have hw:∀ n:Int,0<=n->n<2 ^ 32->IntKind.u32.wrap n=n:=fun n h0 h1=>by rw[IntKind.wrap_u32];omega
 obtain⟨h1,h2⟩:=bits_nat .u32 32 (by decide) hw a b ha hb;refine⟨h1,h2,?_⟩;have ha':a % 2 ^ IntKind.u32.bits=a:=Nat.mod_eq_of_lt ha;have hb':b % 2 ^ IntKind.u32.bits=b:=Nat.mod_eq_of_lt hb;simp only [bits,BitVec.ofInt_natCast,BitVec.toNat_xor,BitVec.toNat_ofNat,ha',hb'];exact hw _ (Int.natCast_nonneg _) (by exact_mod_cast Nat.xor_lt_two_pow ha hb)
theorem bit01{n:Nat} (h:n<4294967296):n >>> 31=0\/n >>> 31=1:=by
 rw[Nat.shiftRight_eq_div_pow];omega
theorem borrow32(x y z d:Nat) (hx:x<4294967296) (hy:y<4294967296) (hz:z<=1) (hd:d<4294967296) (hdd:(d:Int)=((x:Int)-y-z) % 4294967296) :
  (((4294967295 ^^^ x) &&& y) ||| ((4294967295 ^^^ (x ^^^ y)) &&& d)) >>> 31=if x<y+z then 1 else 0:=by
 rw[Nat.shiftRight_or_distrib,Nat.shiftRight_and_distrib,Nat.shiftRight_and_distrib,Nat.shiftRight_xor_distrib,Nat.shiftRight_xor_distrib,Nat.shiftRight_xor_distrib];have e:(4294967295:Nat) >>> 31=1:=by decide
 rw[e];rcases bit01 hx with a | a <;> rcases bit01 hy with b | b <;> rcases bit01 hd with c | c <;> rw[a,b,c] <;> rw[Nat.shiftRight_eq_div_pow]at a b c <;> split <;> first
  | rfl
  | (exfalso;omega)
theorem run229(ρ:Type) (cont:SV->HL->Option ρ) (x y z:Int):runF V0 {} 0 Tryz.f185 (bodyOf Tryz.f185) ρ [one (.int .u32 x),one (.int .u32 y),one (.int .u32 z)] [] cont =
 cont (.tup [(false,[.int .u32 (IntKind.u32.wrap (IntKind.u32.wrap (x-y)-z))]),
  (false,[.int .u32 ((bits .or .u32 (bits .and .u32 (bits .xor .u32 4294967295 x) y) (bits .and .u32 (bits .xor .u32 4294967295 (bits .xor .u32 x y)) (IntKind.u32.wrap (IntKind.u32.wrap (x-y)-z)))).fdiv (2 ^ min (Int.toNat 31) IntKind.u32.bits))])]) []:=by kernel_rfl
def sub32O:Orc:=fun ρ args H cont=>match args,H with
 | [.v false [.int .u32 x],.v false [.int .u32 y],.v false [.int .u32 z]],[] =>
  if(0<=x/\x<4294967296)/\(0<=y/\y<4294967296)/\0<=z/\z<=1 then cont (.tup [(false,[.int .u32 ((x-y-z) % 4294967296)]),(false,[.int .u32 (if x<y+z then 1 else 0)])]) []else none
 | _,_=>none
theorem sums0{N:NumSem} {P:Program} {A:Ann} {nt:Nat} {c:Code} (hl:loopsOf c=[]):SumsOK N P A nt c:=fun l' hl'=>by rw[hl]at hl';cases hl'
theorem orc229(N:NumSem):OrcOK N Tryz.prog 185 sub32O:=
 OrcOK.of_tale (runF_ok (V0_ok N) mixT (A:={}) (fuel:=0) Tryz.func185 (c:=bodyOf Tryz.f185) (by kernel_rfl) (sums0 (by kernel_rfl))) fun ρ args H cont r h=>by
  unfold sub32O at h;split at h
  ·rename_i x y z;split at h
   ·rename_i hc;obtain⟨⟨hx0,hx1⟩,⟨hy0,hy1⟩,hz0,hz1⟩:=hc;refine(run229 ρ cont x y z).trans (Eq.trans ?_ h);obtain⟨x,rfl⟩:=Int.eq_ofNat_of_zero_le hx0;obtain⟨y,rfl⟩:=Int.eq_ofNat_of_zero_le hy0;obtain⟨z,rfl⟩:=Int.eq_ofNat_of_zero_le hz0;have hw:IntKind.u32.wrap (IntKind.u32.wrap ((x:Int)-y)-z)=((x:Int)-y-z) % 4294967296:=by rw[IntKind.wrap_u32,IntKind.wrap_u32];omega
    have hd0:0<=((x:Int)-y-z) % 4294967296:=by omega
    obtain⟨d,hd⟩:=Int.eq_ofNat_of_zero_le hd0;rw[hw,hd];have hdl:d<4294967296:=by omega
    have hxl:x<4294967296:=by omega
    have hyl:y<4294967296:=by omega
    have e1:=(bits_u32 x y hxl hyl).2.2;have e2:bits .xor .u32 4294967295 (x:Int)=((4294967295 ^^^ x:Nat):Int):=(bits_u32 4294967295 x (by decide) hxl).2.2;have l1:x ^^^ y<2 ^ 32:=Nat.xor_lt_two_pow hxl hyl;have l2:4294967295 ^^^ x<2 ^ 32:=Nat.xor_lt_two_pow (by decide) hxl;have e3:bits .xor .u32 4294967295 ((x ^^^ y:Nat):Int)=((4294967295 ^^^ (x ^^^ y):Nat):Int):=(bits_u32 4294967295 (x ^^^ y) (by decide) l1).2.2;have l3:4294967295 ^^^ (x ^^^ y)<2 ^ 32:=Nat.xor_lt_two_pow (by decide) l1;have e4:=(bits_u32 _ y l2 hyl).1;have e5:=(bits_u32 _ d l3 hdl).1;have l4:(4294967295 ^^^ x) &&& y<2 ^ 32:=Nat.and_lt_two_pow _ hyl;have l5:(4294967295 ^^^ (x ^^^ y)) &&& d<2 ^ 32:=Nat.and_lt_two_pow _ hdl;have e6:=(bits_u32 _ _ l4 l5).2.1;rw[e1,e2,e3,e4,e5,e6];have e7:(2:Int) ^ min (Int.toNat 31) IntKind.u32.bits=((2 ^ 31:Nat):Int):=by decide
    rw[e7,Int.fdiv_eq_ediv_of_nonneg _ (by decide),<- Int.natCast_ediv,<- Nat.shiftRight_eq_div_pow,borrow32 x y z d hxl hyl (by omega) hdl (by omega)];have e8:((if x<y+z then 1 else 0:Nat):Int)=if(x:Int)<y+z then 1 else 0:=by
     split <;> split <;> omega
    rw[e8]
   ·contradiction
  ·contradiction
theorem run256(ρ:Type) (cont:SV->HL->Option ρ) (x y z:Int):runF V0 {} 0 Tryz.f217 (bodyOf Tryz.f217) ρ [one (.int .u32 x),one (.int .u32 y),one (.int .u32 z)] [] cont =
 cont (.tup [(false,[.int .u32 (IntKind.u32.wrap (IntKind.u64.wrap (IntKind.u64.wrap (IntKind.u64.wrap x+IntKind.u64.wrap y)+IntKind.u64.wrap z)))]),
  (false,[.int .u32 (IntKind.u32.wrap ((IntKind.u64.wrap (IntKind.u64.wrap (IntKind.u64.wrap x+IntKind.u64.wrap y)+IntKind.u64.wrap z)).fdiv (2 ^ min (Int.toNat 32) IntKind.u64.bits)))])]) []:=by kernel_rfl
def add32O:Orc:=fun ρ args H cont=>match args,H with
 | [.v false [.int .u32 x],.v false [.int .u32 y],.v false [.int .u32 z]],[] =>
  if(0<=x/\x<4294967296)/\(0<=y/\y<4294967296)/\0<=z/\z<=1 then cont (.tup [(false,[.int .u32 ((x+y+z) % 4294967296)]),(false,[.int .u32 ((x+y+z) / 4294967296)])]) []else none
 | _,_=>none
theorem orc256(N:NumSem):OrcOK N Tryz.prog 217 add32O:=
 OrcOK.of_tale (runF_ok (V0_ok N) mixT (A:={}) (fuel:=0) Tryz.func217 (c:=bodyOf Tryz.f217) (by kernel_rfl) (sums0 (by kernel_rfl))) fun ρ args H cont r h=>by
  unfold add32O at h;split at h
  ·rename_i x y z;split at h
   ·rename_i hc;obtain⟨⟨hx0,hx1⟩,⟨hy0,hy1⟩,hz0,hz1⟩:=hc;refine(run256 ρ cont x y z).trans (Eq.trans ?_ h);have e7:(2:Int) ^ min (Int.toNat 32) IntKind.u64.bits=4294967296:=by decide
    have e:IntKind.u64.wrap (IntKind.u64.wrap (IntKind.u64.wrap x+IntKind.u64.wrap y)+IntKind.u64.wrap z)=x+y+z:=by
     simp only [IntKind.wrap_u64];omega
    rw[e,e7,Int.fdiv_eq_ediv_of_nonneg _ (by decide),IntKind.wrap_u32,IntKind.wrap_u32];have e2:(x+y+z) / 4294967296 % 4294967296=(x+y+z) / 4294967296:=by omega
    rw[e2]
   ·contradiction
  ·contradiction
end Go.Abs
