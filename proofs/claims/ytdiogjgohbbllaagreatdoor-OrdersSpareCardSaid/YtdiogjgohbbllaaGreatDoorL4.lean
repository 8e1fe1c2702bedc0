/-
  Texts of the logic and of the layer,in one module (part 4).
-/
import Derived.Test.YtdiogjgohbbllaaGreatDoorL3
import Derived.Test.YtdiogjgohbbllaaGreatDoorRows
import Derived.KernelRfl
import Derived.Shelf.Lay
import Derived.Shelf.Strings.Builder1
import Derived.Shelf.Strconv.Itoa4
import Derived.Ground.NamesProg
set_option linter.unusedVariables false
set_option linter.unusedSimpArgs false
set_option linter.unnecessarySimpa false
namespace Go.Proofs.YtdiogjgohbbllaaGreatDoor
open Go Go.Ab
def YC : List (Nat × TI) := [(1,⟨false,1,8,[.nilFunc]⟩),
  (2,⟨false,1,8,[.int .i64 0]⟩),
  (3,⟨false,1,8,[.int .i64 0]⟩),
  (4,⟨false,1,1,[.bool false]⟩),
  (5,⟨false,1,1,[.int .u8 0]⟩),
  (6,⟨false,1,1,[.int .u8 0]⟩),
  (7,⟨true,4,24,[.int .i64 0,.int .i64 0,.bool false,.int .u8 0]⟩),
  (8,⟨true,4,24,[.int .i64 0,.int .i64 0,.bool false,.int .u8 0]⟩),
  (9,⟨false,1,16,[.string ⟨#[]⟩]⟩),
  (10,⟨false,1,16,[.string ⟨#[]⟩]⟩),
  (11,⟨false,1,16,[.string ⟨#[]⟩]⟩),
  (12,⟨false,1,8,[.int .u64 0]⟩),
  (13,⟨true,2,24,[.string ⟨#[]⟩,.int .u64 0]⟩),
  (14,⟨true,2,24,[.string ⟨#[]⟩,.int .u64 0]⟩),
  (15,⟨false,1,8,[.pointer none]⟩),
  (16,⟨false,1,8,[.pointer none]⟩),
  (17,⟨false,1,8,[.pointer none]⟩),
  (18,⟨true,1,8,[.pointer none]⟩),
  (19,⟨true,1,8,[.pointer none]⟩),
  (21,⟨false,1,4,[.int .i32 0]⟩),
  (22,⟨false,1,24,[.slice none 0 0]⟩),
  (23,⟨false,1,24,[.slice none 0 0]⟩),
  (24,⟨false,1,24,[.slice none 0 0]⟩),
  (25,⟨false,1,8,[.nilFunc]⟩),
  (26,⟨false,1,8,[.nilFunc]⟩),
  (27,⟨false,1,8,[.nilFunc]⟩),
  (28,⟨false,1,8,[.pointer none]⟩),
  (29,⟨false,1,8,[.nilFunc]⟩),
  (30,⟨false,1,8,[.int .i64 0]⟩),
  (32,⟨false,1,8,[.nilFunc]⟩),
  (33,⟨false,1,24,[.slice none 0 0]⟩),
  (34,⟨true,6,64,[.int .i64 0,.int .i64 0,.int .i64 0,.int .i64 0,.int .i64 0,.slice none 0 0]⟩),
  (35,⟨true,6,64,[.int .i64 0,.int .i64 0,.int .i64 0,.int .i64 0,.int .i64 0,.slice none 0 0]⟩),
  (36,⟨false,1,8,[.nilFunc]⟩),
  (37,⟨true,3,40,[.slice none 0 0,.int .i64 0,.int .i64 0]⟩),
  (38,⟨true,3,40,[.slice none 0 0,.int .i64 0,.int .i64 0]⟩),
  (40,⟨false,1,8,[.nilFunc]⟩),
  (41,⟨false,1,24,[.slice none 0 0]⟩),
  (42,⟨false,1,8,[.nilFunc]⟩),
  (43,⟨false,1,8,[.nilFunc]⟩),
  (44,⟨false,1,8,[.nilFunc]⟩),
  (45,⟨false,1,8,[.nilFunc]⟩),
  (47,⟨false,1,8,[.nilFunc]⟩),
  (48,⟨false,1,8,[.nilFunc]⟩),
  (50,⟨false,1,8,[.nilFunc]⟩),
  (51,⟨false,1,8,[.nilFunc]⟩),
  (52,⟨false,1,8,[.nilFunc]⟩),
  (53,⟨false,1,24,[.slice none 0 0]⟩),
  (55,⟨false,1,8,[.nilFunc]⟩),
  (56,⟨false,1,8,[.nilFunc]⟩),
  (57,⟨false,1,8,[.nilFunc]⟩),
  (58,⟨false,1,8,[.nilFunc]⟩),
  (59,⟨true,3,24,[.int .i64 0,.int .i64 0,.int .i64 0]⟩),
  (60,⟨true,3,24,[.int .i64 0,.int .i64 0,.int .i64 0]⟩),
  (61,⟨false,1,8,[.nilFunc]⟩),
  (62,⟨false,1,24,[.slice none 0 0]⟩),
  (63,⟨false,1,8,[.nilFunc]⟩),
  (64,⟨false,1,8,[.nilFunc]⟩),
  (65,⟨true,2,16,[.int .i64 0,.int .i64 0]⟩),
  (66,⟨true,2,16,[.int .i64 0,.int .i64 0]⟩),
  (67,⟨false,1,8,[.pointer none]⟩),
  (68,⟨false,1,8,[.nilFunc]⟩),
  (69,⟨false,1,8,[.nilFunc]⟩),
  (70,⟨false,1,24,[.slice none 0 0]⟩),
  (71,⟨true,1,24,[.slice none 0 0]⟩),
  (72,⟨true,1,24,[.slice none 0 0]⟩),
  (73,⟨false,1,8,[.nilFunc]⟩),
  (74,⟨true,4,64,[.slice none 0 0,.int .i64 0,.int .i64 0,.slice none 0 0]⟩),
  (75,⟨true,4,64,[.slice none 0 0,.int .i64 0,.int .i64 0,.slice none 0 0]⟩),
  (76,⟨false,1,8,[.nilFunc]⟩),
  (77,⟨false,1,8,[.nilFunc]⟩),
  (79,⟨false,1,8,[.nilFunc]⟩),
  (81,⟨false,1,8,[.nilFunc]⟩),
  (82,⟨false,1,8,[.nilFunc]⟩),
  (83,⟨true,3,24,[.int .i64 0,.int .i64 0,.bool false]⟩),
  (84,⟨true,3,24,[.int .i64 0,.int .i64 0,.bool false]⟩),
  (86,⟨true,2,24,[.string ⟨#[]⟩,.int .i64 0]⟩),
  (87,⟨true,2,24,[.string ⟨#[]⟩,.int .i64 0]⟩),
  (88,⟨false,1,24,[.slice none 0 0]⟩),
  (89,⟨false,1,8,[.nilFunc]⟩),
  (90,⟨false,1,8,[.nilFunc]⟩),
  (91,⟨false,1,24,[.slice none 0 0]⟩),
  (92,⟨true,1,24,[.slice none 0 0]⟩),
  (93,⟨true,1,24,[.slice none 0 0]⟩),
  (95,⟨true,4,64,[.slice none 0 0,.int .i64 0,.int .i64 0,.slice none 0 0]⟩),
  (96,⟨true,4,64,[.slice none 0 0,.int .i64 0,.int .i64 0,.slice none 0 0]⟩),
  (97,⟨false,1,8,[.pointer none]⟩),
  (98,⟨false,1,8,[.nilFunc]⟩),
  (99,⟨true,3,24,[.int .i64 0,.int .i64 0,.int .i64 0]⟩),
  (100,⟨true,3,24,[.int .i64 0,.int .i64 0,.int .i64 0]⟩),
  (101,⟨false,1,8,[.nilFunc]⟩),
  (102,⟨false,1,8,[.nilFunc]⟩),
  (103,⟨false,1,8,[.map none]⟩),
  (104,⟨false,1,8,[.nilFunc]⟩),
  (105,⟨false,1,8,[.nilFunc]⟩),
  (106,⟨false,1,8,[.nilFunc]⟩),
  (107,⟨false,1,8,[.nilFunc]⟩),
  (109,⟨false,1,8,[.nilFunc]⟩),
  (112,⟨false,1,8,[.nilFunc]⟩),
  (115,⟨false,1,8,[.nilFunc]⟩),
  (116,⟨false,1,8,[.nilFunc]⟩),
  (117,⟨false,1,8,[.pointer none]⟩),
  (118,⟨false,1,8,[.nilFunc]⟩),
  (119,⟨false,1,8,[.nilFunc]⟩),
  (120,⟨false,1,8,[.pointer none]⟩),
  (121,⟨false,1,24,[.slice none 0 0]⟩),
  (122,⟨true,2,32,[.pointer none,.slice none 0 0]⟩),
  (123,⟨true,2,32,[.pointer none,.slice none 0 0]⟩),
  (127,⟨false,1,8,[.nilFunc]⟩),
  (128,⟨false,1,8,[.nilFunc]⟩),
  (129,⟨false,1,8,[.nilFunc]⟩),
  (130,⟨false,1,8,[.pointer none]⟩),
  (133,⟨false,1,8,[.nilFunc]⟩),
  (134,⟨false,1,8,[.pointer none]⟩),
  (135,⟨false,1,8,[.nilFunc]⟩),
  (140,⟨false,1,8,[.nilFunc]⟩),
  (142,⟨false,1,8,[.nilFunc]⟩),
  (143,⟨false,1,8,[.nilFunc]⟩),
  (144,⟨false,1,8,[.nilFunc]⟩),
  (145,⟨false,1,8,[.nilFunc]⟩),
  (146,⟨false,1,8,[.nilFunc]⟩),
  (148,⟨false,1,8,[.nilFunc]⟩),
  (149,⟨false,1,8,[.nilFunc]⟩),
  (150,⟨false,1,8,[.nilFunc]⟩),
  (151,⟨false,1,8,[.pointer none]⟩),
  (152,⟨true,2,24,[.string ⟨#[]⟩,.bool false]⟩),
  (153,⟨true,2,24,[.string ⟨#[]⟩,.bool false]⟩),
  (155,⟨true,2,24,[.string ⟨#[]⟩,.bool false]⟩),
  (156,⟨true,2,24,[.string ⟨#[]⟩,.bool false]⟩),
  (157,⟨false,1,8,[.nilFunc]⟩),
  (158,⟨false,1,8,[.map none]⟩),
  (162,⟨false,1,8,[.nilFunc]⟩),
  (164,⟨false,1,8,[.nilFunc]⟩),
  (165,⟨false,1,8,[.nilFunc]⟩),
  (169,⟨false,1,8,[.nilFunc]⟩),
  (170,⟨false,1,8,[.nilFunc]⟩),
  (171,⟨false,1,8,[.nilFunc]⟩),
  (179,⟨false,1,8,[.int .i64 0]⟩),
  (187,⟨false,1,4,[.int .u32 0]⟩),
  (193,⟨true,3,48,[.string ⟨#[]⟩,.string ⟨#[]⟩,.nilIface]⟩),
  (194,⟨true,3,48,[.string ⟨#[]⟩,.string ⟨#[]⟩,.nilIface]⟩),
  (197,⟨false,1,8,[.nilFunc]⟩),
  (199,⟨false,1,8,[.pointer none]⟩),
  (200,⟨true,1,16,[.string ⟨#[]⟩]⟩),
  (201,⟨true,1,16,[.string ⟨#[]⟩]⟩),
  (203,⟨true,64,64,[.int .u8 0,.int .u8 0,.int .u8 0,.int .u8 0,.int .u8 0,.int .u8 0,.int .u8 0,.int .u8 0,.int .u8 0,.int .u8 0,.int .u8 0,.int .u8 0,.int .u8 0,.int .u8 0,.int .u8 0,.int .u8 0,.int .u8 0,.int .u8 0,.int .u8 0,.int .u8 0,.int .u8 0,.int .u8 0,.int .u8 0,.int .u8 0,.int .u8 0,.int .u8 0,.int .u8 0,.int .u8 0,.int .u8 0,.int .u8 0,.int .u8 0,.int .u8 0,.int .u8 0,.int .u8 0,.int .u8 0,.int .u8 0,.int .u8 0,.int .u8 0,.int .u8 0,.int .u8 0,.int .u8 0,.int .u8 0,.int .u8 0,.int .u8 0,.int .u8 0,.int .u8 0,.int .u8 0,.int .u8 0,.int .u8 0,.int .u8 0,.int .u8 0,.int .u8 0,.int .u8 0,.int .u8 0,.int .u8 0,.int .u8 0,.int .u8 0,.int .u8 0,.int .u8 0,.int .u8 0,.int .u8 0,.int .u8 0,.int .u8 0,.int .u8 0]⟩),
  (204,⟨true,4,40,[.pointer none,.pointer none,.pointer none,.string ⟨#[]⟩]⟩),
  (205,⟨true,4,40,[.pointer none,.pointer none,.pointer none,.string ⟨#[]⟩]⟩),
  (209,⟨false,1,1,[.int .u8 0]⟩),
  (210,⟨false,1,1,[.int .u8 0]⟩),
  (211,⟨false,1,8,[.nilFunc]⟩),
  (212,⟨false,1,4,[.int .i32 0]⟩),
  (213,⟨false,1,4,[.int .i32 0]⟩),
  (214,⟨true,11,48,[.int .u64 0,.int .u64 0,.int .u32 0,.int .u8 0,.int .u8 0,.int .u8 0,.int .u8 0,.nilFunc,.pointer none,.int .i32 0,.int .i32 0]⟩),
  (215,⟨true,11,48,[.int .u64 0,.int .u64 0,.int .u32 0,.int .u8 0,.int .u8 0,.int .u8 0,.int .u8 0,.nilFunc,.pointer none,.int .i32 0,.int .i32 0]⟩)]
set_option maxRecDepth 8000 in
theorem SM : CZ (fun t i => ∃ inf z,Tryz.prog.info? t = some inf ∧ inf.size = i.size ∧ inf.bytes = i.bytes ∧ inf.zero = some z ∧ z.cells.toList = i.zero ∧ i.zero.length = i.size ∧ W9 Tryz.prog t = some i.agg) YC :=
  ⟨tq (.nilFunc),tq (.int .i64 0),tq (.int .i64 0),tq (.bool false),tq (.int .u8 0),tq (.int .u8 0),tq (.agg #[.int .i64 0,.int .i64 0,.bool false,.int .u8 0]),tq (.agg #[.int .i64 0,.int .i64 0,.bool false,.int .u8 0]),tq (.string ⟨#[]⟩),tq (.string ⟨#[]⟩),tq (.string ⟨#[]⟩),tq (.int .u64 0),tq (.agg #[.string ⟨#[]⟩,.int .u64 0]),tq (.agg #[.string ⟨#[]⟩,.int .u64 0]),tq (.pointer none),tq (.pointer none),tq (.pointer none),tq (.agg #[.pointer none]),tq (.agg #[.pointer none]),tq (.int .i32 0),tq (.slice none 0 0),tq (.slice none 0 0),tq (.slice none 0 0),tq (.nilFunc),tq (.nilFunc),tq (.nilFunc),tq (.pointer none),tq (.nilFunc),tq (.int .i64 0),tq (.nilFunc),tq (.slice none 0 0),tq (.agg #[.int .i64 0,.int .i64 0,.int .i64 0,.int .i64 0,.int .i64 0,.slice none 0 0]),tq (.agg #[.int .i64 0,.int .i64 0,.int .i64 0,.int .i64 0,.int .i64 0,.slice none 0 0]),tq (.nilFunc),tq (.agg #[.slice none 0 0,.int .i64 0,.int .i64 0]),tq (.agg #[.slice none 0 0,.int .i64 0,.int .i64 0]),tq (.nilFunc),tq (.slice none 0 0),tq (.nilFunc),tq (.nilFunc),tq (.nilFunc),tq (.nilFunc),tq (.nilFunc),tq (.nilFunc),tq (.nilFunc),tq (.nilFunc),tq (.nilFunc),tq (.slice none 0 0),tq (.nilFunc),tq (.nilFunc),tq (.nilFunc),tq (.nilFunc),tq (.agg #[.int .i64 0,.int .i64 0,.int .i64 0]),tq (.agg #[.int .i64 0,.int .i64 0,.int .i64 0]),tq (.nilFunc),tq (.slice none 0 0),tq (.nilFunc),tq (.nilFunc),tq (.agg #[.int .i64 0,.int .i64 0]),tq (.agg #[.int .i64 0,.int .i64 0]),tq (.pointer none),tq (.nilFunc),tq (.nilFunc),tq (.slice none 0 0),tq (.agg #[.slice none 0 0]),tq (.agg #[.slice none 0 0]),tq (.nilFunc),tq (.agg #[.slice none 0 0,.int .i64 0,.int .i64 0,.slice none 0 0]),tq (.agg #[.slice none 0 0,.int .i64 0,.int .i64 0,.slice none 0 0]),tq (.nilFunc),tq (.nilFunc),tq (.nilFunc),tq (.nilFunc),tq (.nilFunc),tq (.agg #[.int .i64 0,.int .i64 0,.bool false]),tq (.agg #[.int .i64 0,.int .i64 0,.bool false]),tq (.agg #[.string ⟨#[]⟩,.int .i64 0]),tq (.agg #[.string ⟨#[]⟩,.int .i64 0]),tq (.slice none 0 0),tq (.nilFunc),tq (.nilFunc),tq (.slice none 0 0),tq (.agg #[.slice none 0 0]),tq (.agg #[.slice none 0 0]),tq (.agg #[.slice none 0 0,.int .i64 0,.int .i64 0,.slice none 0 0]),tq (.agg #[.slice none 0 0,.int .i64 0,.int .i64 0,.slice none 0 0]),tq (.pointer none),tq (.nilFunc),tq (.agg #[.int .i64 0,.int .i64 0,.int .i64 0]),tq (.agg #[.int .i64 0,.int .i64 0,.int .i64 0]),tq (.nilFunc),tq (.nilFunc),tq (.map none),tq (.nilFunc),tq (.nilFunc),tq (.nilFunc),tq (.nilFunc),tq (.nilFunc),tq (.nilFunc),tq (.nilFunc),tq (.nilFunc),tq (.pointer none),tq (.nilFunc),tq (.nilFunc),tq (.pointer none),tq (.slice none 0 0),tq (.agg #[.pointer none,.slice none 0 0]),tq (.agg #[.pointer none,.slice none 0 0]),tq (.nilFunc),tq (.nilFunc),tq (.nilFunc),tq (.pointer none),tq (.nilFunc),tq (.pointer none),tq (.nilFunc),tq (.nilFunc),tq (.nilFunc),tq (.nilFunc),tq (.nilFunc),tq (.nilFunc),tq (.nilFunc),tq (.nilFunc),tq (.nilFunc),tq (.nilFunc),tq (.pointer none),tq (.agg #[.string ⟨#[]⟩,.bool false]),tq (.agg #[.string ⟨#[]⟩,.bool false]),tq (.agg #[.string ⟨#[]⟩,.bool false]),tq (.agg #[.string ⟨#[]⟩,.bool false]),tq (.nilFunc),tq (.map none),tq (.nilFunc),tq (.nilFunc),tq (.nilFunc),tq (.nilFunc),tq (.nilFunc),tq (.nilFunc),tq (.int .i64 0),tq (.int .u32 0),tq (.agg #[.string ⟨#[]⟩,.string ⟨#[]⟩,.nilIface]),tq (.agg #[.string ⟨#[]⟩,.string ⟨#[]⟩,.nilIface]),tq (.nilFunc),tq (.pointer none),tq (.agg #[.string ⟨#[]⟩]),tq (.agg #[.string ⟨#[]⟩]),tq (.agg #[.int .u8 0,.int .u8 0,.int .u8 0,.int .u8 0,.int .u8 0,.int .u8 0,.int .u8 0,.int .u8 0,.int .u8 0,.int .u8 0,.int .u8 0,.int .u8 0,.int .u8 0,.int .u8 0,.int .u8 0,.int .u8 0,.int .u8 0,.int .u8 0,.int .u8 0,.int .u8 0,.int .u8 0,.int .u8 0,.int .u8 0,.int .u8 0,.int .u8 0,.int .u8 0,.int .u8 0,.int .u8 0,.int .u8 0,.int .u8 0,.int .u8 0,.int .u8 0,.int .u8 0,.int .u8 0,.int .u8 0,.int .u8 0,.int .u8 0,.int .u8 0,.int .u8 0,.int .u8 0,.int .u8 0,.int .u8 0,.int .u8 0,.int .u8 0,.int .u8 0,.int .u8 0,.int .u8 0,.int .u8 0,.int .u8 0,.int .u8 0,.int .u8 0,.int .u8 0,.int .u8 0,.int .u8 0,.int .u8 0,.int .u8 0,.int .u8 0,.int .u8 0,.int .u8 0,.int .u8 0,.int .u8 0,.int .u8 0,.int .u8 0,.int .u8 0]),tq (.agg #[.pointer none,.pointer none,.pointer none,.string ⟨#[]⟩]),tq (.agg #[.pointer none,.pointer none,.pointer none,.string ⟨#[]⟩]),tq (.int .u8 0),tq (.int .u8 0),tq (.nilFunc),tq (.int .i32 0),tq (.int .i32 0),tq (.agg #[.int .u64 0,.int .u64 0,.int .u32 0,.int .u8 0,.int .u8 0,.int .u8 0,.int .u8 0,.nilFunc,.pointer none,.int .i32 0,.int .i32 0]),tq (.agg #[.int .u64 0,.int .u64 0,.int .u32 0,.int .u8 0,.int .u8 0,.int .u8 0,.int .u8 0,.nilFunc,.pointer none,.int .i32 0,.int .i32 0]),
   trivial⟩
def SC : List (Nat × Nat) := [(22,84),(23,60),(24,35),(33,100),(41,53),(53,66),(62,3),(70,75),(88,87),(91,96),(121,5)]
theorem MR : CZ (fun t e => Tryz.prog.underlying t = some (.slice e)) SC := ⟨kq,kq,kq,kq,kq,kq,kq,kq,kq,kq,kq,trivial⟩
def WU : List (Nat × (Nat × Nat)) := [(203,(64,5)),(206,(0,16))]
theorem RC : CZ (fun t p => Tryz.prog.underlying t = some (.array p.1 p.2)) WU := ⟨kq,kq,trivial⟩
def FO : List (Nat × List (Nat × Nat)) := [(7,[(0,1),(1,1),(2,1),(3,1)]),(8,[(0,1),(1,1),(2,1),(3,1)]),(13,[(0,1),(1,1)]),(14,[(0,1),(1,1)]),(18,[(0,1)]),(19,[(0,1)]),(34,[(0,1),(1,1),(2,1),(3,1),(4,1),(5,1)]),(35,[(0,1),(1,1),(2,1),(3,1),(4,1),(5,1)]),(37,[(0,1),(1,1),(2,1)]),(38,[(0,1),(1,1),(2,1)]),(59,[(0,1),(1,1),(2,1)]),(60,[(0,1),(1,1),(2,1)]),(65,[(0,1),(1,1)]),(66,[(0,1),(1,1)]),(71,[(0,1)]),(72,[(0,1)]),(74,[(0,3),(3,1)]),(75,[(0,3),(3,1)]),(83,[(0,1),(1,1),(2,1)]),(84,[(0,1),(1,1),(2,1)]),(86,[(0,1),(1,1)]),(87,[(0,1),(1,1)]),(92,[(0,1)]),(93,[(0,1)]),(95,[(0,3),(3,1)]),(96,[(0,3),(3,1)]),(99,[(0,1),(1,1),(2,1)]),(100,[(0,1),(1,1),(2,1)]),(122,[(0,1),(1,1)]),(123,[(0,1),(1,1)]),(152,[(0,1),(1,1)]),(153,[(0,1),(1,1)]),(155,[(0,1),(1,1)]),(156,[(0,1),(1,1)]),(193,[(0,1),(1,1),(2,1)]),(194,[(0,1),(1,1),(2,1)]),(200,[(0,1)]),(201,[(0,1)]),(204,[(0,1),(1,1),(2,1),(3,1)]),(205,[(0,1),(1,1),(2,1),(3,1)]),(207,[(0,0)]),(208,[(0,0)]),(214,[(0,1),(1,1),(2,1),(3,1),(4,1),(5,1),(6,1),(7,1),(8,1),(9,1),(10,1)]),(215,[(0,1),(1,1),(2,1),(3,1),(4,1),(5,1),(6,1),(7,1),(8,1),(9,1),(10,1)])]
theorem DX : CZ (fun t l => U0 Tryz.prog t = some l) FO := ⟨kq,kq,kq,kq,kq,kq,kq,kq,kq,kq,kq,kq,kq,kq,kq,kq,kq,kq,kq,kq,kq,kq,kq,kq,kq,kq,kq,kq,kq,kq,kq,kq,kq,kq,kq,kq,kq,kq,kq,kq,kq,kq,kq,kq,trivial⟩
def MO : List ((Nat × Nat) × Nat) := [((7,0),0),((7,1),1),((7,2),2),((7,3),3),((8,0),0),((8,1),1),((8,2),2),((8,3),3),((13,0),0),((13,1),1),((14,0),0),((14,1),1),((18,0),0),((19,0),0),((34,0),0),((34,1),1),((34,2),2),((34,3),3),((34,4),4),((34,5),5),((35,0),0),((35,1),1),((35,2),2),((35,3),3),((35,4),4),((35,5),5),((37,0),0),((37,1),1),((37,2),2),((38,0),0),((38,1),1),((38,2),2),((59,0),0),((59,1),1),((59,2),2),((60,0),0),((60,1),1),((60,2),2),((65,0),0),((65,1),1),((66,0),0),((66,1),1),((71,0),0),((72,0),0),((74,0),0),((74,1),3),((75,0),0),((75,1),3),((83,0),0),((83,1),1),((83,2),2),((84,0),0),((84,1),1),((84,2),2),((86,0),0),((86,1),1),((87,0),0),((87,1),1),((92,0),0),((93,0),0),((95,0),0),((95,1),3),((96,0),0),((96,1),3),((99,0),0),((99,1),1),((99,2),2),((100,0),0),((100,1),1),((100,2),2),((122,0),0),((122,1),1),((123,0),0),((123,1),1),((152,0),0),((152,1),1),((153,0),0),((153,1),1),((155,0),0),((155,1),1),((156,0),0),((156,1),1),((193,0),0),((193,1),1),((193,2),2),((194,0),0),((194,1),1),((194,2),2),((200,0),0),((201,0),0),((204,0),0),((204,1),1),((204,2),2),((204,3),3),((205,0),0),((205,1),1),((205,2),2),((205,3),3),((214,0),0),((214,1),1),((214,2),2),((214,3),3),((214,4),4),((214,5),5),((214,6),6),((214,7),7),((214,8),8),((214,9),9),((214,10),10),((215,0),0),((215,1),1),((215,2),2),((215,3),3),((215,4),4),((215,5),5),((215,6),6),((215,7),7),((215,8),8),((215,9),9),((215,10),10)]
theorem IK : CZ (fun (tf : Nat × Nat) o => ∃ fs fd inf,Tryz.prog.underlying tf.1 = some (.struct fs) ∧ fs[tf.2]? = some fd ∧ fd.offset = o ∧ Tryz.prog.info? fd.type = some inf ∧ inf.size ≠ 0) MO :=
  ⟨fq,fq,fq,fq,fq,fq,fq,fq,fq,fq,fq,fq,fq,fq,fq,fq,fq,fq,fq,fq,fq,fq,fq,fq,fq,fq,fq,fq,fq,fq,fq,fq,fq,fq,fq,fq,fq,fq,fq,fq,fq,fq,fq,fq,uE (n := 2) (by kernel_rfl),fq,uE (n := 2) (by kernel_rfl),fq,fq,fq,fq,fq,fq,fq,fq,fq,fq,fq,fq,fq,uE (n := 2) (by kernel_rfl),fq,uE (n := 2) (by kernel_rfl),fq,fq,fq,fq,fq,fq,fq,fq,fq,fq,fq,fq,fq,fq,fq,fq,fq,fq,fq,fq,fq,fq,fq,fq,fq,fq,fq,fq,fq,fq,fq,fq,fq,fq,fq,fq,fq,fq,fq,fq,fq,fq,fq,fq,fq,fq,fq,fq,fq,fq,fq,fq,fq,fq,fq,fq,fq,
   trivial⟩
theorem fL : Tryz.prog.follows .mixedOrders = true := by kernel_rfl
def T : lJ Tryz.prog where
  ti := H3 YC
  tiOk := fun _ _ h => tY SM h
  elem := H3 SC
  elemOk := fun _ _ h => tY MR h
  field := fun t f => U4 MO t f
  fieldOk := fun _ _ _ h => Q3 IK h
  arr := H3 WU
  arrOk := fun _ _ _ h => tY RC h
  places := H3 FO
  placesOk := fun _ _ h => tY DX h
end Go.Proofs.YtdiogjgohbbllaaGreatDoor
namespace Go.Or
open Go Go.Ab
def vD {α : Type} (p : α → Bool) : List α → Nat → Int
  | [],_ => -1
  | x :: l,k => if p x = true then k else vD p l (k + 1)
theorem GC {α : Type} {p : α → Bool} {l : List α} {k : Nat} (h : k < l.length) : vD p (l.drop k) k = if p l[k] = true then (k : Int) else vD p (l.drop (k + 1)) (k + 1) := by
  rw [aS h];rfl
theorem BP {α : Type} {p : α → Bool} {l : List α} {k : Nat} (h : l.length ≤ k) : vD p (l.drop k) k = -1 := by
  rw [cW h];rfl
theorem H9 {α : Type} (p : α → Bool) : ∀ (l : List α) (k : Nat), decide (vD p l k ≥ 0) = l.any p
  | [],k => by simp [vD]
  | x :: l,k => by
    unfold vD;split
    · rename_i h;simp [h]
    · rename_i h;rw [H9 p l (k + 1)];simp [h]
theorem Q6 {α : Type} (p : α → Bool) : ∀ (l : List α) (k : Nat), (vD p l k = -1 ∧ ∀ x, x ∈ l → p x = false) ∨ ∃ (j : Nat) (hj : j < l.length), vD p l k = ((k + j : Nat) : Int) ∧ p l[j] = true ∧ ∀ x, x ∈ l.take j → p x = false
  | [],k => .inl ⟨rfl,fun x hx => by cases hx⟩
  | y :: l,k => by
    unfold vD;cases hp : p y with
    | true => exact .inr ⟨0,by simp,by rw [if_pos rfl];rfl,by simpa using hp,fun x hx => by simp at hx⟩
    | false =>
      rw [if_neg (by simp)]
      rcases Q6 p l (k + 1) with ⟨h1,h2⟩ | ⟨j,hj,h1,h2,h3⟩
      · refine .inl ⟨h1,fun x hx => ?_⟩
        rcases aQ.1 hx with rfl | hx
        · exact hp
        · exact h2 x hx
      · refine .inr ⟨j + 1,by simp;omega,by rw [h1];omega,by simpa using h2,fun x hx => ?_⟩
        rw [oT] at hx;rcases aQ.1 hx with rfl | hx
        · exact hp
        · exact h3 x hx
theorem tI (l : List Wt) : ∀ e,e ∈ bZ l → e.length = 3 := by intro e he;obtain ⟨n,_,rfl⟩ := aJ.1 he;rfl
theorem gR (l : List Wt) : (bZ l).length = l.length := bI _
theorem SI (l : List Wt) : (bZ l).flatten.all AV.one = true := by
  induction l with
  | nil => rfl
  | cons x l ih => exact ih
theorem vO (l : List Wt) : ∀ e,e ∈ bZ l → AV.idfL e = true := by intro e he;obtain ⟨x,_,rfl⟩ := aJ.1 he;rfl
theorem JI {l : List Wt} {k : Nat} (h : k < l.length) : (bZ l)[(k : Int).toNat]? = some ([AV.i l[k].1,AV.i l[k].2.1,AV.i l[k].2.2]) := by simp [h]
theorem rT (l : List Tk) : ∀ e,e ∈ eI l → e.length = 2 := by intro e he;obtain ⟨n,_,rfl⟩ := aJ.1 he;rfl
theorem jX (l : List Tk) : (eI l).length = l.length := bI _
theorem JU (l : List Tk) : (eI l).flatten.all AV.one = true := by
  induction l with
  | nil => rfl
  | cons x l ih => exact ih
theorem nX (l : List Tk) : ∀ e,e ∈ eI l → AV.idfL e = true := by intro e he;obtain ⟨x,_,rfl⟩ := aJ.1 he;rfl
theorem F0 {l : List Tk} {k : Nat} (h : k < l.length) : (eI l)[(k : Int).toNat]? = some ([AV.i l[k].1,AV.i l[k].2]) := by simp [h]
theorem oC (l : List Bo) : ∀ e,e ∈ eX l → e.length = 3 := by intro e he;obtain ⟨n,_,rfl⟩ := aJ.1 he;rfl
theorem eP (l : List Bo) : (eX l).length = l.length := bI _
theorem NB (l : List Bo) : (eX l).flatten.all AV.one = true := by
  induction l with
  | nil => rfl
  | cons x l ih => exact ih
theorem pL (l : List Bo) : ∀ e,e ∈ eX l → AV.idfL e = true := by intro e he;obtain ⟨x,_,rfl⟩ := aJ.1 he;rfl
theorem UM {l : List Bo} {k : Nat} (h : k < l.length) : (eX l)[(k : Int).toNat]? = some ([AV.i l[k].1,AV.i l[k].2.1,AV.i l[k].2.2]) := by simp [h]
theorem zP (l : List Lo) : ∀ e,e ∈ lO l → e.length = 3 := by intro e he;obtain ⟨n,_,rfl⟩ := aJ.1 he;rfl
theorem qZ (l : List Lo) : (lO l).length = l.length := bI _
theorem QB {l : List Lo} {k : Nat} (h : k < l.length) : (lO l)[k]? = some ([AV.i l[k].1,AV.i l[k].2.1,AV.b l[k].2.2]) := by simp [h]
theorem DZ (l : List Int) : ∀ e,e ∈ gO l → e.length = 1 := by intro e he;obtain ⟨n,_,rfl⟩ := aJ.1 he;rfl
theorem uU (l : List Int) : (gO l).length = l.length := bI _
theorem fH (l : List Int) : ∀ e,e ∈ gO l → AV.idfL e = true := by intro e he;obtain ⟨x,_,rfl⟩ := aJ.1 he;rfl
theorem EA {l : List Int} {k : Nat} (h : k < l.length) : (gO l)[(k : Int).toNat]? = some ([AV.i l[k]]) := by simp [h]
end Go.Or
namespace Go.Proofs.YtdiogjgohbbllaaGreatDoor
open Go Go.Ab Go.Or
attribute [local irreducible] VC AW bQ bJ
set_option maxHeartbeats 4000000
theorem mR (l : List Nat) : ∀ i : Nat,i < 0 → l[i]? = some i := fun i h => absurd h (gY _)
theorem wL {a b : Bool} (h : a = b) : AV.b a = AV.b b := by rw [h]
theorem TQ {l : List Wt} {F : FuncId} {caps : List AV} {p : Wt → Bool} (hl : l.length ≤ 1000000) (hi : AV.idfL caps = true) (hF : ∀ x,x ∈ l → bJ Tryz.prog F (.agg [.i x.1,.i x.2.1,.i x.2.2] :: caps) [] (.b (p x)) []) :
    bJ Tryz.prog 100 [.rowE (bZ l) 3,.clo (.func F) [] caps] [] (.i (vD p l 0)) [] := by
  have hlen : (bZ l).length = l.length := bI _;refine dB T Tryz.func100 rfl rfl rfl rfl ?_
  (repeat' (first|refine wS ?_|refine wB ?_|(refine rg 0 (aV ?_))|(refine rg 1 (mW rfl (qW T rfl (mV ?_))))|refine nZ ?_));refine eN (X := {k : Nat // k ≤ l.length ∧ vD p l 0 = vD p (l.drop k) k}) (fun k => [(0,.rowE (bZ l) 3),(1,.clo (.func F) [] caps),(7,.i (bZ l).length),(8,.i k.1)]) (fun _ => []) (fun k => l.length - k.1) ⟨0,by simp,rfl⟩ ⟨[],rfl,⟨rfl,by rw [fU hi];rfl,rfl,rfl,trivial⟩,trivial,aU,fun _ h => absurd h (gY _)⟩ ?_
  rintro ⟨k,hk,he⟩;dsimp only;by_cases hlt : k < l.length
  · have hc := hF l[k] (aK hlt);have hg := JI (l := l) hlt;rw [GC hlt] at he;generalize l[k] = y at *;cases hp : p y with
    | true =>
      rw [hp] at hc;rw [hp,if_pos rfl] at he
      (repeat' (first|refine wS ?_|refine wB ?_|refine wK ?_|refine wR ?_|refine wT ?_|(refine wC rfl ?_ ?_<;>(intro hb;(try simp only [nm] at hb);try (exfalso;omega)))|(refine rg 2 (vV (bB rfl rfl) ?_))|(refine rg 3 (mW rfl (aV ?_)))|(refine rg 4 (eW rfl (mW rfl (vV (ix T rfl (by omega) (tI l) hg) (lW T rfl (vV (by exact cM rfl rfl hc rfl (by simp [AV.idfL,AV.idf,hi]) rfl) ?_))))))|(refine rg 5 (mW rfl (aV ?_)))|refine nZ ?_));all_goals first | (exfalso;omega) | exact eG (.inl rfl) rfl (by rw [he];rfl)
    | false =>
      rw [hp] at hc;rw [hp,if_neg (by simp)] at he
      (repeat' (first|refine wS ?_|refine wB ?_|refine wK ?_|refine wU ?_|(refine wC rfl ?_ ?_<;>(intro hb;(try simp only [nm] at hb);try (exfalso;omega)))|(refine rg 2 (vV (bB rfl rfl) ?_))|(refine rg 3 (mW rfl (aV ?_)))|(refine rg 4 (eW rfl (mW rfl (vV (ix T rfl (by omega) (tI l) hg) (lW T rfl (vV (by exact cM rfl rfl hc rfl (by simp [AV.idfL,AV.idf,hi]) rfl) ?_))))))|(refine rg 6 (vV (eE rfl rfl (by omega) (by omega)) (mV ?_)))|refine nZ ?_));all_goals first | (exfalso;omega) | exact ⟨⟨k + 1,hlt,he⟩,by dsimp only;omega,⟨[],rfl,⟨rfl,by rw [fU hi];rfl,rfl,rfl,trivial⟩,trivial,aU,fun _ h => absurd h (gY _)⟩⟩
  · rw [BP (by omega)] at he
    (repeat' (first|refine wS ?_|refine wR ?_|refine wE ?_|(refine wC rfl ?_ ?_<;>(intro hb;(try simp only [nm] at hb);try (exfalso;omega)))|(refine rg 2 (vV (bB rfl rfl) ?_))|(refine rg 7 (aV ?_))|refine nZ ?_));all_goals first | (exfalso;omega) | exact eG (.inl rfl) rfl (by rw [he];rfl)
theorem GD {l : List Wt} {F : FuncId} {caps : List AV} {p : Wt → Bool} (hl : l.length ≤ 1000000) (hi : AV.idfL caps = true) (hF : ∀ x,x ∈ l → bJ Tryz.prog F (.agg [.i x.1,.i x.2.1,.i x.2.2] :: caps) [] (.b (p x)) []) :
    bJ Tryz.prog 51 [.rowE (bZ l) 3,.clo (.func F) [] caps] [] (.b (l.any p)) [] := by
  have hc := TQ hl hi hF;rw [← H9 p l 0];refine dB T Tryz.func51 rfl rfl rfl rfl ?_
  (repeat' (first|refine wS ?_|refine wR ?_|(refine rg 0 (aV ?_))|(refine rg 1 (eW rfl (vV (by exact cM rfl rfl hc rfl (by simp [AV.idfL,AV.idf,hi]) rfl) ?_));refine vV (fT rfl rfl) (aV ?_))|refine nZ ?_));all_goals first | (exfalso;omega) | exact rQ
theorem LY {l : List Tk} {F : FuncId} {caps : List AV} {p : Tk → Bool} (hl : l.length ≤ 1000000) (hi : AV.idfL caps = true) (hF : ∀ x,x ∈ l → bJ Tryz.prog F (.agg [.i x.1,.i x.2] :: caps) [] (.b (p x)) []) :
    bJ Tryz.prog 106 [.rowE (eI l) 2,.clo (.func F) [] caps] [] (.i (vD p l 0)) [] := by
  have hlen : (eI l).length = l.length := bI _;refine dB T Tryz.func106 rfl rfl rfl rfl ?_
  (repeat' (first|refine wS ?_|refine wB ?_|(refine rg 0 (aV ?_))|(refine rg 1 (mW rfl (qW T rfl (mV ?_))))|refine nZ ?_));refine eN (X := {k : Nat // k ≤ l.length ∧ vD p l 0 = vD p (l.drop k) k}) (fun k => [(0,.rowE (eI l) 2),(1,.clo (.func F) [] caps),(7,.i (eI l).length),(8,.i k.1)]) (fun _ => []) (fun k => l.length - k.1) ⟨0,by simp,rfl⟩ ⟨[],rfl,⟨rfl,by rw [fU hi];rfl,rfl,rfl,trivial⟩,trivial,aU,fun _ h => absurd h (gY _)⟩ ?_
  rintro ⟨k,hk,he⟩;dsimp only;by_cases hlt : k < l.length
  · have hc := hF l[k] (aK hlt);have hg := F0 (l := l) hlt;rw [GC hlt] at he;generalize l[k] = y at *;cases hp : p y with
    | true =>
      rw [hp] at hc;rw [hp,if_pos rfl] at he
      (repeat' (first|refine wS ?_|refine wB ?_|refine wK ?_|refine wR ?_|refine wT ?_|(refine wC rfl ?_ ?_<;>(intro hb;(try simp only [nm] at hb);try (exfalso;omega)))|(refine rg 2 (vV (bB rfl rfl) ?_))|(refine rg 3 (mW rfl (aV ?_)))|(refine rg 4 (eW rfl (mW rfl (vV (ix T rfl (by omega) (rT l) hg) (lW T rfl (vV (by exact cM rfl rfl hc rfl (by simp [AV.idfL,AV.idf,hi]) rfl) ?_))))))|(refine rg 5 (mW rfl (aV ?_)))|refine nZ ?_));all_goals first | (exfalso;omega) | exact eG (.inl rfl) rfl (by rw [he];rfl)
    | false =>
      rw [hp] at hc;rw [hp,if_neg (by simp)] at he
      (repeat' (first|refine wS ?_|refine wB ?_|refine wK ?_|refine wU ?_|(refine wC rfl ?_ ?_<;>(intro hb;(try simp only [nm] at hb);try (exfalso;omega)))|(refine rg 2 (vV (bB rfl rfl) ?_))|(refine rg 3 (mW rfl (aV ?_)))|(refine rg 4 (eW rfl (mW rfl (vV (ix T rfl (by omega) (rT l) hg) (lW T rfl (vV (by exact cM rfl rfl hc rfl (by simp [AV.idfL,AV.idf,hi]) rfl) ?_))))))|(refine rg 6 (vV (eE rfl rfl (by omega) (by omega)) (mV ?_)))|refine nZ ?_));all_goals first | (exfalso;omega) | exact ⟨⟨k + 1,hlt,he⟩,by dsimp only;omega,⟨[],rfl,⟨rfl,by rw [fU hi];rfl,rfl,rfl,trivial⟩,trivial,aU,fun _ h => absurd h (gY _)⟩⟩
  · rw [BP (by omega)] at he
    (repeat' (first|refine wS ?_|refine wR ?_|refine wE ?_|(refine wC rfl ?_ ?_<;>(intro hb;(try simp only [nm] at hb);try (exfalso;omega)))|(refine rg 2 (vV (bB rfl rfl) ?_))|(refine rg 7 (aV ?_))|refine nZ ?_));all_goals first | (exfalso;omega) | exact eG (.inl rfl) rfl (by rw [he];rfl)
theorem GF {l : List Tk} {F : FuncId} {caps : List AV} {p : Tk → Bool} (hl : l.length ≤ 1000000) (hi : AV.idfL caps = true) (hF : ∀ x,x ∈ l → bJ Tryz.prog F (.agg [.i x.1,.i x.2] :: caps) [] (.b (p x)) []) :
    bJ Tryz.prog 56 [.rowE (eI l) 2,.clo (.func F) [] caps] [] (.b (l.any p)) [] := by
  have hc := LY hl hi hF;rw [← H9 p l 0];refine dB T Tryz.func56 rfl rfl rfl rfl ?_
  (repeat' (first|refine wS ?_|refine wR ?_|(refine rg 0 (aV ?_))|(refine rg 1 (eW rfl (vV (by exact cM rfl rfl hc rfl (by simp [AV.idfL,AV.idf,hi]) rfl) ?_));refine vV (fT rfl rfl) (aV ?_))|refine nZ ?_));all_goals first | (exfalso;omega) | exact rQ
theorem vB (l : List Wt) (hl : l.length ≤ 1000000) : bJ Tryz.prog 45 [.rowE (bZ l) 3] [] (.sl 0 0 l.length 3) [.arr (bZ l) 3] := by
  have hll : (bZ l).length = l.length := gR l;refine dB T Tryz.func45 rfl rfl rfl rfl ?_
  repeat' (first|refine wS ?_|refine wK ?_|refine wT ?_|refine wU ?_|(refine rg 0 (aV ?_))|(refine rg 1 (mV ?_);refine wY T rfl rfl rfl rfl fun b hb=>?_;cases b)|refine nZ ?_)
  · (repeat' (first|refine wR ?_|(refine rg 3 (dX (by exact cK T rfl rfl (by decide) (by decide) rfl rfl rfl) rfl ?_);refine mW rfl (iK T rfl rfl rfl rfl rfl rfl (by decide) (.row (tI l)) (SI l) (by simp;omega) (by simp;omega) rfl ?_);refine aV ?_)|(refine nZ ?_)));exact ⟨.inl rfl,[1],_,rfl,(by show AV.sl 1 0 (0 + (bZ l).length) 3 = AV.sl 1 0 l.length 3;simp),rfl,⟨.inr (cN rfl rfl (vO _)),trivial⟩,by decide,mR _⟩
  · have hl0 : l = [] := iW.1 (Classical.byContradiction fun h => by have := hb (by omega);cases this)
    subst hl0
    (repeat' (first|refine wR ?_|(refine rg 2 (vV (jG rfl) (E8 2 3 rfl (by decide) ?_)))|refine nZ ?_));exact ⟨.inl rfl,[0],_,rfl,rfl,rfl,⟨.inr (cN rfl rfl (vO _)),trivial⟩,by decide,mR _⟩
theorem IM (l : List Tk) (hl : l.length ≤ 1000000) : bJ Tryz.prog 97 [.rowE (eI l) 2] [] (.sl 0 0 l.length 2) [.arr (eI l) 2] := by
  have hll : (eI l).length = l.length := jX l;refine dB T Tryz.func97 rfl rfl rfl rfl ?_
  repeat' (first|refine wS ?_|refine wK ?_|refine wT ?_|refine wU ?_|(refine rg 0 (aV ?_))|(refine rg 1 (mV ?_);refine wY T rfl rfl rfl rfl fun b hb=>?_;cases b)|refine nZ ?_)
  · (repeat' (first|refine wR ?_|(refine rg 3 (dX (by exact cK T rfl rfl (by decide) (by decide) rfl rfl rfl) rfl ?_);refine mW rfl (iK T rfl rfl rfl rfl rfl rfl (by decide) (.row (rT l)) (JU l) (by simp;omega) (by simp;omega) rfl ?_);refine aV ?_)|(refine nZ ?_)));exact ⟨.inl rfl,[1],_,rfl,(by show AV.sl 1 0 (0 + (eI l).length) 2 = AV.sl 1 0 l.length 2;simp),rfl,⟨.inr (cN rfl rfl (nX _)),trivial⟩,by decide,mR _⟩
  · have hl0 : l = [] := iW.1 (Classical.byContradiction fun h => by have := hb (by omega);cases this)
    subst hl0
    (repeat' (first|refine wR ?_|(refine rg 2 (vV (jG rfl) (E8 2 2 rfl (by decide) ?_)))|refine nZ ?_));exact ⟨.inl rfl,[0],_,rfl,rfl,rfl,⟨.inr (cN rfl rfl (nX _)),trivial⟩,by decide,mR _⟩
theorem R5 (l : List Bo) (hl : l.length ≤ 1000000) : bJ Tryz.prog 49 [.rowE (eX l) 3] [] (.sl 0 0 l.length 3) [.arr (eX l) 3] := by
  have hll : (eX l).length = l.length := eP l;refine dB T Tryz.func49 rfl rfl rfl rfl ?_
  repeat' (first|refine wS ?_|refine wK ?_|refine wT ?_|refine wU ?_|(refine rg 0 (aV ?_))|(refine rg 1 (mV ?_);refine wY T rfl rfl rfl rfl fun b hb=>?_;cases b)|refine nZ ?_)
  · (repeat' (first|refine wR ?_|(refine rg 3 (dX (by exact cK T rfl rfl (by decide) (by decide) rfl rfl rfl) rfl ?_);refine mW rfl (iK T rfl rfl rfl rfl rfl rfl (by decide) (.row (oC l)) (NB l) (by simp;omega) (by simp;omega) rfl ?_);refine aV ?_)|(refine nZ ?_)));exact ⟨.inl rfl,[1],_,rfl,(by show AV.sl 1 0 (0 + (eX l).length) 3 = AV.sl 1 0 l.length 3;simp),rfl,⟨.inr (cN rfl rfl (pL _)),trivial⟩,by decide,mR _⟩
  · have hl0 : l = [] := iW.1 (Classical.byContradiction fun h => by have := hb (by omega);cases this)
    subst hl0
    (repeat' (first|refine wR ?_|(refine rg 2 (vV (jG rfl) (E8 2 3 rfl (by decide) ?_)))|refine nZ ?_));exact ⟨.inl rfl,[0],_,rfl,rfl,rfl,⟨.inr (cN rfl rfl (pL _)),trivial⟩,by decide,mR _⟩
def L5 : List Int → Int → Int → Int
  | [],_,_ => -1
  | x :: r,v,k => if v = x then k else L5 r v (k + 1)
theorem BO : ∀ (l : List Int) (v k : Int), 0 ≤ k → (0 ≤ L5 l v k ↔ v ∈ l)
  | [],v,k,_ => by simp [L5]
  | x :: r,v,k,hk => by
    simp only [L5];split
    · rename_i e;subst e;simp [hk]
    · rename_i e;rw [BO r v (k + 1) (by omega)]
      simp [e]
theorem IC {l : List Int} {v : Int} {k : Nat} (h : k < l.length) : L5 (l.drop k) v k = if v = l[k] then (k : Int) else L5 (l.drop (k + 1)) v ((k + 1 : Nat) : Int) := by
  rw [aS h];simp [L5]
theorem MB (l : List Int) (v : Int) (hl : l.length ≤ 1000000) : bJ Tryz.prog 121 [.rowE (gO l) 1,.i v] [] (.i (L5 l v 0)) [] := by
  have hlen : (gO l).length = l.length := by simp
  refine dB T Tryz.func121 rfl rfl rfl rfl ?_
  (repeat' (first|refine wS ?_|refine wB ?_|(refine rg 0 (aV ?_))|(refine rg 1 (mW rfl (qW T rfl (mV ?_))))|refine nZ ?_));refine eN (X := {k : Nat // k ≤ l.length ∧ L5 l v 0 = L5 (l.drop k) v k}) (fun k => [(0,.rowE (gO l) 1),(1,.i v),(7,.i (gO l).length),(8,.i k.1)]) (fun _ => []) (fun k => l.length - k.1) ⟨0,by simp,rfl⟩ (rU []) ?_
  rintro ⟨k,hk,hf⟩;dsimp only;by_cases hlt : k < l.length
  · have hd := IC (v := v) hlt;have hg := EA (l := l) hlt
    repeat' (first|refine wS ?_|refine wB ?_|refine wK ?_|refine wR ?_|(refine wC rfl ?_ ?_<;>(intro hb;(try simp only [nm] at hb);try (exfalso;omega)))|(refine rg 2 (vV (bB rfl rfl) ?_))|(refine rg 3 (mW rfl (aV ?_)))|(refine rg 4 (eW rfl (mW rfl (vV (ix T rfl (by omega) (DZ l) hg) (lW T rfl (vV (cT rfl rfl) ?_))))))|(refine rg 5 (mW rfl (aV ?_)))|(refine rg 6 (vV (eE rfl rfl (by omega) (by omega)) (mV ?_)))|refine nZ ?_)
    · refine eG (.inl rfl) rfl ?_;rw [hf,hd,if_pos hb];rfl
    · refine ⟨⟨k + 1,by omega,?_⟩,by dsimp only;omega,rU []⟩
      rw [hf,hd,if_neg hb]
  · (repeat' (first|refine wS ?_|refine wR ?_|refine wE ?_|(refine wC rfl (fun hb => ?_) (fun hb => ?_) <;> (((try simp only [nm] at hb);try (exfalso;omega))))|(refine rg 2 (vV (bB rfl rfl) ?_))|(refine rg 7 (aV ?_))|(refine nZ ?_)));refine eG (.inl rfl) rfl ?_
    rw [hf,cW (by omega)];rfl
theorem CE (l : List Int) (v : Int) (hl : l.length ≤ 1000000) : bJ Tryz.prog 105 [.rowE (gO l) 1,.i v] [] (.b (decide (v ∈ l))) [] := by
  refine dB T Tryz.func105 rfl rfl rfl rfl ?_
  (repeat' (first|refine wS ?_|refine wR ?_|(refine rg 0 (aV ?_))|(refine rg 1 (eW rfl (vV (kC (MB l v hl)) (vV (fT rfl rfl) (aV ?_)))))|refine nZ ?_));refine eG (.inl rfl) rfl (wL ?_)
  rw [T0];simp only [decide_eq_true_eq];exact BO l v 0 (by omega)
theorem UN (w : Wt) : bJ Tryz.prog 98 [.agg [.i w.1,.i w.2.1,.i w.2.2]] [] (.b (sH w)) [] := by
  refine dB T Tryz.func98 rfl rfl rfl rfl ?_
  (repeat' (first|refine wS ?_|refine wR ?_|(refine rg 0 (dX (gL rfl rfl) rfl (aV ?_)))|(refine rg 1 (jQ T rfl (vV (bB rfl rfl) (mV ?_)));refine bS rfl rfl ?_ ?_<;>(intro hb;rw [hb];(try simp only [nm] at hb);try (exfalso;omega));(all_goals first|(refine gT (fW T rfl (gT (lW T rfl (gT (vV (bB rfl rfl) ?_))))))|(iterate 3 refine gF ?_));(all_goals (refine pW rfl (mV ?_)));(all_goals first|(refine gK ?_)|(refine bS rfl rfl ?_ ?_<;>(intro hb;rw [hb];(try simp only [nm] at hb);try (exfalso;omega))));(all_goals first|(refine gT (fW T rfl (gT (lW T rfl (gT (vV (gJ rfl rfl) ?_))))))|(iterate 3 refine gF ?_));(all_goals (refine pW rfl (mV ?_)));(all_goals first|(refine gK ?_)|(refine bS rfl rfl ?_ ?_<;>(intro hb;rw [hb];(try simp only [nm] at hb);try (exfalso;omega))));(all_goals first|(refine gT (fW T rfl (gT (lW T rfl (gT (vV (bB rfl rfl) ?_))))))|(iterate 3 refine gF ?_));(all_goals (refine pW rfl (mV ?_)));(all_goals first|(refine gK ?_)|(refine bS rfl rfl ?_ ?_<;>(intro hb;rw [hb];(try simp only [nm] at hb);try (exfalso;omega))));(all_goals first|(refine gT (fW T rfl (gT (lW T rfl (gT (vV (gJ rfl rfl) ?_))))))|(iterate 3 refine gF ?_));(all_goals (refine pW rfl (aV ?_))))|refine nZ ?_));all_goals first | (exfalso;omega) | exact eG (.inl rfl) rfl (wL (by unfold sH;first | rfl | (rw [T0];simp only [mX,decide_eq_true_eq,true_iff];omega) | (rw [T0];simp;omega)))
theorem N9 (ws : List Wt) (due : Int) (hl : ws.length ≤ 1000000) : bJ Tryz.prog 48 [.rowE (bZ ws) 3,.i due] [] (.b (iZ ws due)) [] := by
  have hc := GD (l := ws) (F := 98) (caps := []) (p := sH) hl rfl fun x _ => UN x
  have hll := gR ws;unfold iZ;generalize ws.any sH = q at *;by_cases h1 : ws.length < 1
  · (rw [show (!(decide (ws.length < 1) || (decide (20 < ws.length) || (decide (due < 0) || decide (20000 < due)))) && !q) = false by simp [*]]
     refine dB T Tryz.func48 rfl rfl rfl rfl ?_
     (repeat' (first|refine wS ?_|refine wR ?_|refine wT ?_|(refine rg 0 (aV ?_))|(refine rg 1 (mW rfl (qW T rfl (vV (bB rfl rfl) (mV ?_))));refine bS rfl rfl ?_ ?_<;>(intro hb;rw [hb];(try simp only [nm] at hb);try (exfalso;omega));(all_goals ((iterate 3 refine gF ?_);refine pW rfl (mV ?_);(iterate 2 refine gF ?_);refine pW rfl (mV ?_);(iterate 2 refine gF ?_);refine pV ?_)))|(refine rg 2 (aV ?_))|refine nZ ?_));all_goals first | (exfalso;omega) | exact rQ)
  by_cases h2 : 20 < ws.length
  · (rw [show (!(decide (ws.length < 1) || (decide (20 < ws.length) || (decide (due < 0) || decide (20000 < due)))) && !q) = false by simp [*]]
     refine dB T Tryz.func48 rfl rfl rfl rfl ?_
     (repeat' (first|refine wS ?_|refine wR ?_|refine wT ?_|(refine rg 0 (aV ?_))|(refine rg 1 (mW rfl (qW T rfl (vV (bB rfl rfl) (mV ?_))));refine bS rfl rfl ?_ ?_<;>(intro hb;rw [hb];(try simp only [nm] at hb);try (exfalso;omega));(all_goals (refine yN rfl (gT (qW T rfl (yV (gJ rfl rfl) (pW rfl (mV ?_)))));refine bS rfl rfl ?_ ?_<;>(intro hb;rw [hb];(try simp only [nm] at hb);try (exfalso;omega))));(all_goals ((iterate 2 refine gF ?_);refine pW rfl (mV ?_);(iterate 2 refine gF ?_);refine pV ?_)))|(refine rg 2 (aV ?_))|refine nZ ?_));all_goals first | (exfalso;omega) | exact rQ)
  by_cases h3 : due < 0
  · (rw [show (!(decide (ws.length < 1) || (decide (20 < ws.length) || (decide (due < 0) || decide (20000 < due)))) && !q) = false by simp [*]]
     refine dB T Tryz.func48 rfl rfl rfl rfl ?_
     (repeat' (first|refine wS ?_|refine wR ?_|refine wT ?_|(refine rg 0 (aV ?_))|(refine rg 1 (mW rfl (qW T rfl (vV (bB rfl rfl) (mV ?_))));refine bS rfl rfl ?_ ?_<;>(intro hb;rw [hb];(try simp only [nm] at hb);try (exfalso;omega));(all_goals (refine yN rfl (gT (qW T rfl (yV (gJ rfl rfl) (pW rfl (mV ?_)))));refine bS rfl rfl ?_ ?_<;>(intro hb;rw [hb];(try simp only [nm] at hb);try (exfalso;omega))));(all_goals (refine yN rfl (yV (bB rfl rfl) (pW rfl (mV ?_)));refine bS rfl rfl ?_ ?_<;>(intro hb;rw [hb];(try simp only [nm] at hb);try (exfalso;omega))));(all_goals ((iterate 2 refine gF ?_);refine pV ?_)))|(refine rg 2 (aV ?_))|refine nZ ?_));all_goals first | (exfalso;omega) | exact rQ)
  by_cases h4 : 20000 < due
  · (rw [show (!(decide (ws.length < 1) || (decide (20 < ws.length) || (decide (due < 0) || decide (20000 < due)))) && !q) = false by simp [*]]
     refine dB T Tryz.func48 rfl rfl rfl rfl ?_
     (repeat' (first|refine wS ?_|refine wR ?_|(refine wC rfl ?_ ?_<;>(intro hb;(try simp only [nm] at hb);try (exfalso;omega)))|(refine rg 0 (aV ?_))|(refine rg 1 (mW rfl (qW T rfl (vV (bB rfl rfl) (mV ?_))));refine bS rfl rfl ?_ ?_<;>(intro hb;rw [hb];(try simp only [nm] at hb);try (exfalso;omega));(all_goals (refine yN rfl (gT (qW T rfl (yV (gJ rfl rfl) (pW rfl (mV ?_)))));refine bS rfl rfl ?_ ?_<;>(intro hb;rw [hb];(try simp only [nm] at hb);try (exfalso;omega))));(all_goals (refine yN rfl (yV (bB rfl rfl) (pW rfl (mV ?_)));refine bS rfl rfl ?_ ?_<;>(intro hb;rw [hb];(try simp only [nm] at hb);try (exfalso;omega))));(all_goals (refine yN rfl (yV (gJ rfl rfl) (pV ?_)))))|(refine rg 2 (aV ?_))|refine nZ ?_));all_goals first | (exfalso;omega) | exact rQ)
  rw [show (!(decide (ws.length < 1) || (decide (20 < ws.length) || (decide (due < 0) || decide (20000 < due)))) && !q) = !q by simp [h1,h2,h3,h4]]
  refine dB T Tryz.func48 rfl rfl rfl rfl ?_
  (repeat' (first|refine wS ?_|refine wK ?_|refine wR ?_|(refine wC rfl ?_ ?_<;>(intro hb;(try simp only [nm] at hb);try (exfalso;omega)))|(refine rg 0 (aV ?_))|(refine rg 1 (mW rfl (qW T rfl (vV (bB rfl rfl) (mV ?_))));refine bS rfl rfl ?_ ?_<;>(intro hb;rw [hb];(try simp only [nm] at hb);try (exfalso;omega));(all_goals (refine yN rfl (gT (qW T rfl (yV (gJ rfl rfl) (pW rfl (mV ?_)))));refine bS rfl rfl ?_ ?_<;>(intro hb;rw [hb];(try simp only [nm] at hb);try (exfalso;omega))));(all_goals (refine yN rfl (yV (bB rfl rfl) (pW rfl (mV ?_)));refine bS rfl rfl ?_ ?_<;>(intro hb;rw [hb];(try simp only [nm] at hb);try (exfalso;omega))));(all_goals (refine yN rfl (yV (gJ rfl rfl) (pV ?_)))))|(refine rg 3 (mW rfl (vV (kC (hc)) (vV (eJ rfl) (aV ?_)))))|refine nZ ?_));all_goals first | (exfalso;omega) | exact rQ
end Go.Proofs.YtdiogjgohbbllaaGreatDoor
namespace Go.Or
open Go Go.Ab
theorem H6 {k : Int → Int} {x : Int} : ∀ {S1 S2 : List Int}, (∀ y, y ∈ S1 → k y ≤ k x) → (∀ y, y ∈ S2 → k x < k y) → tC k x (S1 ++ S2) = S1 ++ x :: S2
  | [],[],_,_ => rfl
  | [],y :: S2,_,h => by
    simp only [List.nil_append,tC];rw [if_pos (h y aP)]
  | z :: S1,S2,h1,h2 => by
    simp only [List.cons_append,tC];rw [if_neg (by have := h1 z aP;omega),H6 (fun y hy => h1 y (aF _ hy)) h2]
abbrev WW (k : Int → Int) (l : List Int) : Prop := l.Pairwise fun a b => k a ≤ k b
theorem GB {k : Int → Int} {x : Int} : ∀ {l : List Int}, WW k l → WW k (tC k x l)
  | [],_ => by simp [tC]
  | y :: l,h => by
    have h1 := JA.1 h;unfold tC;split
    · rename_i hlt;refine JA.2 ⟨fun z hz => ?_,h⟩
      rcases aQ.1 hz with rfl | hz
      · omega
      · have := h1.1 z hz;omega
    · rename_i hlt;refine JA.2 ⟨fun z hz => ?_,GB h1.2⟩
      rcases H7.1 hz with rfl | hz
      · omega
      · exact h1.1 z hz
theorem BZ {k : Int → Int} : ∀ {l a : List Int}, WW k a → WW k (l.foldl (fun a x => tC k x a) a)
  | [],a,h => h
  | x :: l,a,h => by rw [S8];exact BZ (GB h)
theorem KE (k : Int → Int) (l : List Int) : WW k (kF k l) := BZ List.Pairwise.nil
theorem DK (k : Int → Int) (l : List Int) (x : Int) : kF k (l ++ [x]) = tC k x (kF k l) := by unfold kF;rw [List.foldl_append];rfl
theorem EB {α : Type} (A B : List α) (x : α) {n : Nat} (h : n = A.length) : (A ++ x :: B)[n]? = some x := by subst h;simp
theorem FV {α : Type} (A B : List α) (x y : α) {n : Nat} (h : n = A.length) : (A ++ x :: B).set n y = A ++ y :: B := by subst h;simp
structure SG (k : Int → Int) (l : List Int) (i : Nat) (x : Int) (q : List Int × List Int) : Prop where
  eq : q.1 ++ q.2 = kF k (l.take i)
  gt : ∀ y,y ∈ q.2 → k x < k y
def tB (l : List Int) (i : Nat) (x : Int) (q : List Int × List Int) : List Int := q.1 ++ x :: (q.2 ++ l.drop (i + 1))
def T3 (k : Int → Int) (l : List Int) (i : Nat) : List Int := kF k (l.take i) ++ l.drop i
theorem HZ {k : Int → Int} {l : List Int} {i : Nat} {x : Int} (h : i < l.length) (hx : l[i]? = some x) : SG k l i x (kF k (l.take i),[]) ∧ T3 k l i = tB l i x (kF k (l.take i),[]) := by
  refine ⟨⟨by simp,fun y hy => by cases hy⟩,?_⟩
  unfold T3 tB;rw [aS h,(aA.1 hx).2];simp
theorem FW {k : Int → Int} {l : List Int} {i : Nat} {x : Int} {q : List Int × List Int} (h : SG k l i x q) (hi : i < l.length) : q.1.length + q.2.length = i := by
  have := congrArg List.length h.eq;rw [aC,qQ,bV] at this;omega
theorem LP {k : Int → Int} {l : List Int} {i : Nat} {x : Int} {q : List Int × List Int} (h : SG k l i x q) (hi : i < l.length) : (tB l i x q).length = l.length := by
  have := FW h hi;unfold tB;simp only [aC,List.length_cons,fP];omega
theorem LN {k : Int → Int} {l : List Int} {i : Nat} {x : Int} {q : List Int × List Int} (h : SG k l i x q) (hi : i < l.length) (hx : l[i]? = some x) (hs : ∀ y,y ∈ q.1 → k y ≤ k x) : tB l i x q = T3 k l (i + 1) := by
  unfold tB T3;rw [aX hi,(aA.1 hx).2,DK,← h.eq,H6 hs h.gt];simp
theorem PX {k : Int → Int} {l : List Int} {i : Nat} {x y : Int} {S : List Int} {q : List Int × List Int} (h : SG k l i x q) (e : q.1 = S ++ [y]) (hc : ¬ k x < k y) : ∀ z,z ∈ q.1 → k z ≤ k x := by
  have hu := KE k (l.take i);rw [← h.eq,e] at hu;have h1 := (List.pairwise_append.1 hu).1;have h2 := (List.pairwise_append.1 h1).2.2;intro z hz;rw [e] at hz;rcases bD.1 hz with hz | hz
  · have := h2 z hz y (by simp);omega
  · rw [bL.1 hz];omega
theorem LO {k : Int → Int} {l : List Int} {i : Nat} {x y : Int} {S : List Int} {q : List Int × List Int} (h : SG k l i x q) (e : q.1 = S ++ [y]) (hc : k x < k y) : SG k l i x (S,y :: q.2) := by
  refine ⟨?_,fun z hz => ?_⟩
  · rw [← h.eq,e];simp
  · rcases aQ.1 hz with rfl | hz
    · exact hc
    · exact h.gt z hz
def CH (x y : Int) : Int := if x < y then -1 else if y < x then 1 else 0
theorem MX {x y : Int} : CH x y < 0 ↔ x < y := by unfold CH;split <;> (try split) <;> omega
theorem LJ {L : List Int} {j : Int} {i : Nat} {x : Int} (h : L[i]? = some x) (e : j = i) : (gO L)[0 + j.toNat]? = some [AV.i x] := by
  subst e;rw [Nat.zero_add,bK,aR,h];rfl
theorem LH {L : List Int} {j : Int} {i : Nat} {x : Int} (e : j = i) : (gO L).set (0 + j.toNat) [AV.i x] = gO (L.set i x) := by
  subst e;rw [Nat.zero_add,bK];show _ = List.map (fun n : Int => [AV.i n]) (L.set i x);rw [oF]
end Go.Or
namespace Go.Proofs.YtdiogjgohbbllaaGreatDoor
open Go Go.Ab Go.Or
attribute [local irreducible] VC AW bQ bJ
set_option maxHeartbeats 4000000
theorem wQ : ∀ i : Nat,i < 1 → ([0] : List Nat)[i]? = some i := by decide
theorem zM (x : Int) : bJ Tryz.prog 120 [.i x] [] (.b false) [] := by
  refine dB T Tryz.func120 rfl rfl rfl rfl ?_
  (repeat' (first|refine wS ?_|refine wR ?_|(refine rg 0 (aV ?_))|(refine rg 1 (eW rfl (vV (oB rfl rfl) (aV ?_))))|refine nZ ?_));all_goals first | (exfalso;omega) | exact eG (.inl rfl) rfl (wL (by simp))
theorem UH (x y : Int) : bJ Tryz.prog 104 [.i x,.i y] [] (.i (CH x y)) [] := by
  by_cases h1 : x < y
  · rw [show CH x y = -1 by unfold CH;rw [if_pos h1]]
    refine dB T Tryz.func104 rfl rfl rfl rfl ?_
    (repeat' (first|refine wS ?_|refine wK ?_|refine wR ?_|refine wU ?_|(refine wC rfl ?_ ?_<;>(intro hb;(try simp only [nm] at hb);try (exfalso;omega)))|(refine rg 0 (aV ?_))|(refine rg 1 (mW rfl (vV (kC (zM x)) (aV ?_))))|(refine rg 2 (mW rfl (vV (kC (zM y)) (aV ?_))))|(refine rg 3 (mV ?_))|(refine rg 7 (mV ?_))|(refine rg 9 (eW rfl (vV (bB rfl rfl) ?_)))|(refine rg 10 (aV ?_))|refine nZ ?_));all_goals first | (exfalso;omega) | exact rQ
  · by_cases h2 : y < x
    · rw [show CH x y = 1 by unfold CH;rw [if_neg h1,if_pos h2]]
      refine dB T Tryz.func104 rfl rfl rfl rfl ?_
      (repeat' (first|refine wS ?_|refine wK ?_|refine wR ?_|refine wU ?_|(refine wC rfl ?_ ?_<;>(intro hb;(try simp only [nm] at hb);try (exfalso;omega)))|(refine rg 0 (aV ?_))|(refine rg 1 (mW rfl (vV (kC (zM x)) (aV ?_))))|(refine rg 2 (mW rfl (vV (kC (zM y)) (aV ?_))))|(refine rg 3 (mV ?_))|(refine rg 7 (mV ?_))|(refine rg 9 (eW rfl (vV (bB rfl rfl) ?_)))|(refine rg 11 (eW rfl (vV (gJ rfl rfl) ?_)))|(refine rg 12 (aV ?_))|refine nZ ?_));all_goals first | (exfalso;omega) | exact rQ
    · rw [show CH x y = 0 by unfold CH;rw [if_neg h1,if_neg h2]]
      refine dB T Tryz.func104 rfl rfl rfl rfl ?_
      (repeat' (first|refine wS ?_|refine wK ?_|refine wR ?_|refine wU ?_|(refine wC rfl ?_ ?_<;>(intro hb;(try simp only [nm] at hb);try (exfalso;omega)))|(refine rg 0 (aV ?_))|(refine rg 1 (mW rfl (vV (kC (zM x)) (aV ?_))))|(refine rg 2 (mW rfl (vV (kC (zM y)) (aV ?_))))|(refine rg 3 (mV ?_))|(refine rg 7 (mV ?_))|(refine rg 9 (eW rfl (vV (bB rfl rfl) ?_)))|(refine rg 11 (eW rfl (vV (gJ rfl rfl) ?_)))|(refine rg 13 (aV ?_))|refine nZ ?_));all_goals first | (exfalso;omega) | exact rQ
theorem Q5 {F : FuncId} {caps : List AV} (l : List Int) (hl : l.length ≤ 100000) (hc : AV.idfL caps = true) :
    bJ Tryz.prog 131 [.sl 0 0 l.length 1,.i l.length,.i l.length,.clo (.func F) [] caps] [.arr (gO l) 1] (.tup []) [.arr (gO l) 1] := by
  refine dB T Tryz.func131 rfl rfl rfl rfl ?_
  (repeat' (first|refine wS ?_|refine wB ?_|(refine iA 0 rfl rfl rfl (by omega) (by omega) ?_)|refine nZ ?_));refine eN (X := Unit) (fun _ => [(0,.sl 0 0 l.length 1),(1,.i l.length),(2,.i l.length),(8,.i ((l.length : Int) + 1))]) (fun _ => [.arr (gO l) 1]) (fun _ => 0) () ⟨[0],rfl,by (repeat (first | exact trivial | refine ⟨rfl,?_⟩)),⟨.inr (cN rfl rfl (fH _)),trivial⟩,by decide,wQ⟩ ?_
  intro _;dsimp only
  (repeat' (first|refine wS ?_|refine wE ?_|(refine wC rfl ?_ ?_<;>(intro hb;(try simp only [nm] at hb);try (exfalso;omega)))|(refine rg 1 (eW rfl (vV (bB rfl rfl) ?_)))|refine nZ ?_));all_goals first | (exfalso;omega) | exact ⟨.inl rfl,[0],_,rfl,rfl,rfl,⟨.inr (cN rfl rfl (fH _)),trivial⟩,by decide,wQ⟩ | exact ⟨.inr rfl,[0],_,rfl,rfl,rfl,⟨.inr (cN rfl rfl (fH _)),trivial⟩,by decide,wQ⟩
theorem TR {F : FuncId} {caps : List AV} {key : Int → Int} (l : List Int) (hl : l.length ≤ 100000) (hn : 0 < l.length) (hi : AV.idfL caps = true)
    (hF : ∀ x y,x ∈ l → y ∈ l → bJ Tryz.prog F (.i x :: .i y :: caps) [] (.i (CH (key x) (key y))) []) :
    bJ Tryz.prog 131 [.sl 0 0 l.length 1,.i 0,.i l.length,.clo (.func F) [] caps] [.arr (gO l) 1] (.tup []) [.arr (gO (kF key l)) 1] := by
  refine dB T Tryz.func131 rfl rfl rfl rfl ?_
  (repeat' (first|refine wS ?_|refine wB ?_|(refine iA 0 rfl rfl rfl (by omega) (by omega) ?_)|refine nZ ?_));have h1e : T3 key l 1 = l := by
    unfold T3;obtain ⟨a,r,rfl⟩ : ∃ a r,l = a :: r := by
      cases l with
      | nil => simp at hn
      | cons a r => exact ⟨a,r,rfl⟩
    simp [kF,tC]
  refine eN (X := {i : Nat // 1 ≤ i ∧ i ≤ l.length}) (fun i => [(0,.sl 0 0 l.length 1),(1,.i 0),(2,.i l.length),(3,.clo (.func F) [] caps),(8,.i i.1)]) (fun i => [.arr (gO (T3 key l i.1)) 1]) (fun i => l.length - i.1) ⟨1,by omega,by omega⟩ ⟨[0],rfl,⟨rfl,rfl,rfl,by rw [fU hi];rfl,rfl,trivial⟩,⟨.inr (cN rfl (by dsimp only;rw [h1e]) (fH _)),trivial⟩,by decide,wQ⟩ ?_
  rintro ⟨i,h1,h2⟩;dsimp only;by_cases hil : i < l.length
  · (repeat' (first|refine wS ?_|refine wB ?_|refine wK ?_|(refine wC rfl (fun hb => ?_) (fun hb => ?_) <;> (((try simp only [nm] at hb);try (exfalso;omega))))|(refine rg 1 (eW rfl (vV (bB rfl rfl) ?_)))|(refine rg 3 (mW rfl (aV ?_)))|(refine nZ ?_)));all_goals try (exfalso;omega)
    obtain ⟨x,hx⟩ : ∃ x,l[i]? = some x := ⟨_,aB hil⟩;have hxl := aH hx;obtain ⟨s1,s2⟩ := HZ (k := key) hil hx;refine eN (X := {q : List Int × List Int // SG key l i x q}) (fun q => [(0,.sl 0 0 l.length 1),(1,.i 0),(2,.i l.length),(3,.clo (.func F) [] caps),(8,.i i),(9,.i (q.1.1.length : Int))]) (fun q => [.arr (gO (tB l i x q.1)) 1]) (fun q => q.1.1.length) ⟨_,s1⟩ ⟨[0],rfl,⟨rfl,rfl,rfl,by rw [fU hi];rfl,rfl,by dsimp only;rw [qQ,bV,S7 (by omega)];rfl,trivial⟩,⟨.inr (cN rfl (by dsimp only;rw [s2]) (fH _)),trivial⟩,by decide,wQ⟩ ?_
    rintro ⟨⟨S1,S2⟩,hq⟩;dsimp only;have hln := FW hq hil;dsimp only at hln;have hlen := LP hq hil;rcases List.eq_nil_or_concat S1 with rfl | ⟨S,y,rfl⟩
    · have ee := LN hq hil hx (fun y hy => by cases hy)
      generalize tB l i x ([],S2) = L at *
      (repeat' (first|refine wS ?_|refine wE ?_|refine wU ?_|(refine eS (id := 4) 53 ZD (rM 18 17) ZE fL rfl (by decide +kernel) (dN rfl (dN rfl (dV rfl (gJ rfl rfl) (dN rfl (tG rfl (tG rfl (tG rfl (tG rfl (dG ?_)))))))));refine tG rfl (tG rfl (tG rfl (tG rfl (tG rfl (tG rfl (tG rfl (dV rfl (nP rfl rfl) (dE ?_)))))))))|(refine iA 2 rfl rfl rfl (by omega) (by omega) ?_)|refine nZ ?_));all_goals first | (exfalso;omega) | exact ⟨⟨i + 1,by omega,by omega⟩,by dsimp only;omega,⟨[0],rfl,⟨rfl,rfl,rfl,by rw [fU hi];rfl,rfl,trivial⟩,⟨.inr (cN rfl (by dsimp only;rw [ee]) (fH _)),trivial⟩,by decide,wQ⟩⟩
    · rw [List.concat_eq_append] at *;have hy : y ∈ l := by
        have h3 : y ∈ kF key (l.take i) := by rw [← hq.eq];simp
        exact gC (zC.1 h3)
      have hc := hF x y hxl hy;have hL : tB l i x (S ++ [y],S2) = S ++ y :: x :: (S2 ++ l.drop (i + 1)) := by unfold tB;simp
      have hJ : ((S ++ [y]).length : Int) = ((S.length + 1 : Nat) : Int) := by simp
      have q1 := LJ (L := tB l i x (S ++ [y],S2)) (j := ((S ++ [y]).length : Int)) (i := S.length + 1) (x := x) (by rw [hL,show S ++ y :: x :: (S2 ++ l.drop (i + 1)) = (S ++ [y]) ++ x :: (S2 ++ l.drop (i + 1)) by simp];exact EB _ _ _ (by simp)) hJ
      have q2 := LJ (L := tB l i x (S ++ [y],S2)) (j := ((S ++ [y]).length : Int) - 1) (i := S.length) (x := y) (by rw [hL];exact EB _ _ _ rfl) (by omega)
      by_cases h0 : key x < key y
      · have ee := LO hq rfl h0;have hz : CH (key x) (key y) < 0 := MX.2 h0;have t1 := LH (L := tB l i x (S ++ [y],S2)) (j := ((S ++ [y]).length : Int)) (i := S.length + 1) (x := y) hJ;have e1 : (tB l i x (S ++ [y],S2)).set (S.length + 1) y = S ++ y :: y :: (S2 ++ l.drop (i + 1)) := by
          rw [hL,show S ++ y :: x :: (S2 ++ l.drop (i + 1)) = (S ++ [y]) ++ x :: (S2 ++ l.drop (i + 1)) by simp,FV _ _ _ _ (by simp)];simp
        rw [e1] at t1;have q3 := LJ (L := S ++ y :: y :: (S2 ++ l.drop (i + 1))) (j := ((S ++ [y]).length : Int) - 1) (i := S.length) (x := y) (EB _ _ _ rfl) (by omega)
        have t2 := LH (L := S ++ y :: y :: (S2 ++ l.drop (i + 1))) (j := ((S ++ [y]).length : Int) - 1) (i := S.length) (x := x) (by omega)
        rw [FV _ _ _ _ rfl,show S ++ x :: y :: (S2 ++ l.drop (i + 1)) = tB l i x (S,y :: S2) by unfold tB;simp,← t1] at t2
        rw [← t1] at q3;have hJ2 : ((S ++ [y]).length : Int) - 1 = (S.length : Int) := by omega
        have hJ3 : ((S ++ [y]).length : Int) < l.length := by omega
        have hJ4 : (0 : Int) < ((S ++ [y]).length : Int) := by omega
        clear hJ hL;generalize ((S ++ [y]).length : Int) = J at *;generalize CH (key x) (key y) = z at *;generalize tB l i x (S ++ [y],S2) = L at *
        (repeat' (first|refine wS ?_|refine wB ?_|refine wK ?_|(refine wC rfl ?_ ?_<;>(intro hb;(try simp only [nm] at hb);try (exfalso;omega)))|(refine eS (id := 4) 53 ZD (rM 18 17) ZE fL rfl (by decide +kernel) (dN rfl (dN rfl (dV rfl (gJ rfl rfl) (dM ?_))));refine yA rfl rfl rfl rfl ?_ ?_<;>(intro hb;rw [hb];(try simp only [nm] at hb);try (exfalso;omega))<;>(refine tM ?_);(all_goals (refine tN rfl (tN rfl (dT rfl (by exact cI T rfl rfl rfl rfl rfl (by omega) (by omega)) ?_));refine dT rfl (by exact bC T rfl rfl (mH rfl q1) rfl) ?_;refine tN rfl (tN rfl (dT rfl (gH rfl rfl (by omega) (by omega)) (dT rfl (by exact cI T rfl rfl rfl rfl rfl (by omega) (by omega)) ?_)));refine dT rfl (by exact bC T rfl rfl (mH rfl q2) rfl) ?_;refine dT rfl (by exact cM rfl rfl hc rfl (by simp [AV.idfL,AV.idf,hi]) rfl) ?_;refine dT rfl (bB rfl rfl) (dV rfl (mS rfl rfl) (dE ?_)))))|(refine IS (id := 6) 53 [[],[],[],[],[3],[],[],[6],[5,6,7],rM 5 4,[],[],[10,11],[10,11,12],[0,1,5,6,7,8,9,10,11,12,13],[0,1,5,6,7,8,9,10,11,12,13,14]] (rM 37 15) [[],[37],[37,38],[37,38,39],[37,38,39],rM 37 5,rM 37 6,rM 37 6,rM 37 5,rM 37 5,rM 37 10,rM 37 11,rM 37 10,rM 37 10,[39,40,41],[39,40,41]] [(15,0)] fL rfl (by decide +kernel) (pI rfl rfl rfl rfl (by exact eV rfl) ?_);refine pI rfl rfl rfl rfl (by exact eV rfl) ?_;refine pI rfl rfl rfl rfl (by exact eV rfl) ?_;refine pI rfl rfl rfl rfl (by exact eV rfl) ?_;refine pI rfl rfl rfl rfl (by exact gH rfl rfl (by omega) (by omega)) ?_;refine pI rfl rfl rfl rfl (by exact eV rfl) ?_;refine pI rfl rfl rfl rfl (by exact eV rfl) ?_;refine pI rfl rfl rfl rfl (by exact gH rfl rfl (by omega) (by omega)) ?_;refine pI rfl rfl rfl rfl (by exact cI T rfl rfl rfl rfl rfl (by omega) (by omega)) ?_;refine pI rfl rfl rfl rfl (by exact bC T rfl rfl (mH rfl q2) rfl) ?_;refine pI rfl rfl rfl rfl (by exact eV rfl) ?_;refine pI rfl rfl rfl rfl (by exact eV rfl) ?_;refine pI rfl rfl rfl rfl (by exact cI T rfl rfl rfl rfl rfl (by omega) (by omega)) ?_;refine pI rfl rfl rfl rfl (by exact bC T rfl rfl (mH rfl q1) rfl) ?_;refine pI rfl rfl rfl rfl (by exact cI T rfl rfl rfl rfl rfl (by omega) (by omega)) ?_;refine TY rfl rfl rfl rfl (bA rfl) T rfl rfl rfl rfl rfl rfl (by decide) (OO rfl q1 rfl) ?_;refine QT rfl rfl rfl (by exact rfl) ?_;refine vV (by exact cI T rfl rfl rfl rfl rfl (by omega) (by omega)) ?_;refine bH T rfl rfl rfl rfl rfl rfl (by decide) (JN rfl q3 rfl) ?_)|(refine rg 5 (mW rfl (vV (gH rfl rfl (by omega) (by omega)) (aV ?_))))|refine nZ ?_));all_goals first | (exfalso;omega) | exact ⟨⟨_,ee⟩,by dsimp only;simp,⟨[0],rfl,⟨rfl,rfl,rfl,by rw [fU hi];rfl,rfl,by dsimp only;rw [← hJ2];try rfl,trivial⟩,⟨.inr (cN rfl (by dsimp only;rw [← t2];try rfl) (fH _)),trivial⟩,by decide,wQ⟩⟩
      · have ee := LN hq hil hx (PX hq rfl h0);have hz : ¬ CH (key x) (key y) < 0 := fun e => h0 (MX.1 e);have hJ3 : ((S ++ [y]).length : Int) < l.length := by omega
        have hJ4 : (0 : Int) < ((S ++ [y]).length : Int) := by omega
        clear hJ hL;generalize ((S ++ [y]).length : Int) = J at *;generalize CH (key x) (key y) = z at *;generalize tB l i x (S ++ [y],S2) = L at *
        (repeat' (first|refine wS ?_|refine wE ?_|(refine wC rfl ?_ ?_<;>(intro hb;(try simp only [nm] at hb);try (exfalso;omega)))|(refine eS (id := 4) 53 ZD (rM 18 17) ZE fL rfl (by decide +kernel) (dN rfl (dN rfl (dV rfl (gJ rfl rfl) (dM ?_))));refine yA rfl rfl rfl rfl ?_ ?_<;>(intro hb;rw [hb];(try simp only [nm] at hb);try (exfalso;omega))<;>(refine tM ?_);(all_goals (refine tN rfl (tN rfl (dT rfl (by exact cI T rfl rfl rfl rfl rfl (by omega) (by omega)) ?_));refine dT rfl (by exact bC T rfl rfl (mH rfl q1) rfl) ?_;refine tN rfl (tN rfl (dT rfl (gH rfl rfl (by omega) (by omega)) (dT rfl (by exact cI T rfl rfl rfl rfl rfl (by omega) (by omega)) ?_)));refine dT rfl (by exact bC T rfl rfl (mH rfl q2) rfl) ?_;refine dT rfl (by exact cM rfl rfl hc rfl (by simp [AV.idfL,AV.idf,hi]) rfl) ?_;refine dT rfl (bB rfl rfl) (dV rfl (mS rfl rfl) (dE ?_)))))|(refine iA 2 rfl rfl rfl (by omega) (by omega) ?_)|refine nZ ?_));all_goals first | (exfalso;omega) | exact ⟨⟨i + 1,by omega,by omega⟩,by dsimp only;omega,⟨[0],rfl,⟨rfl,rfl,rfl,by rw [fU hi];rfl,rfl,trivial⟩,⟨.inr (cN rfl (by dsimp only;rw [ee]) (fH _)),trivial⟩,by decide,wQ⟩⟩
  · obtain rfl : i = l.length := by omega
    have ee : T3 key l l.length = kF key l := by unfold T3;simp
    (repeat' (first|refine wS ?_|refine wE ?_|(refine wC rfl ?_ ?_<;>(intro hb;(try simp only [nm] at hb);try (exfalso;omega)))|(refine rg 1 (eW rfl (vV (bB rfl rfl) ?_)))|refine nZ ?_));all_goals first | (exfalso;omega) | exact ⟨.inl rfl,[0],_,rfl,rfl,rfl,⟨.inr (cN rfl (by rw [ee]) (fH _)),trivial⟩,by decide,wQ⟩ | exact ⟨.inr rfl,[0],_,rfl,rfl,rfl,⟨.inr (cN rfl (by rw [ee]) (fH _)),trivial⟩,by decide,wQ⟩
end Go.Proofs.YtdiogjgohbbllaaGreatDoor
namespace Go.Or
open Go Go.Ab
theorem HJ {ls : List Lo} {bs : List Bo} {w : Wt} {k : Nat} : vR ls bs w (k + 1) = if 0 < cnt bs k ∧ nB ls (bs.getD k (0,0,0)) w = true then vR ls bs w k ++ [(k : Int)] else vR ls bs w k := by
  unfold vR HX;rw [List.range_succ,cO,List.filter_append];by_cases h : 0 < cnt bs k ∧ nB ls (bs.getD k (0,0,0)) w = true
  · rw [if_pos h];have h2 : nB ls (bs[k]?.getD (0,0,0)) w = true := by simpa using h.2
    simp [h.1,h2]
  · rw [if_neg h];have : ¬ (0 < cnt bs k ∧ nB ls (bs[k]?.getD (0,0,0)) w = true) := by simpa using h
    simp only [List.map_cons,List.map_nil,RG,List.filter_nil,bK,aD,aL,decide_eq_true_eq,if_neg this,List.append_nil]
theorem E3 {bs : List Bo} {k : Nat} (h : k < bs.length) : (eX bs)[(k : Int).toNat]? = some [AV.i (bs.getD k (0,0,0)).1,AV.i (bs.getD k (0,0,0)).2.1,AV.i (bs.getD k (0,0,0)).2.2] := by
  rw [UM h,aD,aB h];rfl
theorem V9 {bs : List Bo} {j : Int} (h0 : 0 ≤ j) (h : j < bs.length) : (eX bs)[j.toNat]? = some [AV.i (bs.getD j.toNat (0,0,0)).1,AV.i (bs.getD j.toNat (0,0,0)).2.1,AV.i (bs.getD j.toNat (0,0,0)).2.2] := by
  have := E3 (bs := bs) (k := j.toNat) (by omega)
  rw [bK] at this;exact this
theorem U5 {ls : List Lo} {j : Int} (h0 : 0 ≤ j) (h : j < ls.length) : (lO ls)[j.toNat]? = some [AV.i (ls.getD j.toNat (0,0,false)).1,AV.i (ls.getD j.toNat (0,0,false)).2.1,AV.b (ls.getD j.toNat (0,0,false)).2.2] := by
  have := QB (l := ls) (k := j.toNat) (by omega)
  rw [this,aD,aB (by omega)];rfl
def K5 (ls : List Lo) (bs : List Bo) : Prop := ∀ i : Nat,i < bs.length → -1 ≤ (bs.getD i (0,0,0)).1 ∧ (bs.getD i (0,0,0)).1 < ls.length
theorem TG (l : List Int) (x : Int) : (List.take l.length (List.drop 0 (gO l))) ++ [[AV.i x]] = gO (l ++ [x]) := by
  rw [cY,aY (by simp)];simp
end Go.Or
namespace Go.Proofs.YtdiogjgohbbllaaGreatDoor
open Go Go.Ab Go.Or
attribute [local irreducible] VC AW bQ bJ
set_option maxHeartbeats 4000000
theorem QN (l : Lo) (w : Wt) : bJ Tryz.prog 64 [.agg [.i l.1,.i l.2.1,.b l.2.2],.agg [.i w.1,.i w.2.1,.i w.2.2]] [] (.b (MN l w)) [] := by
  obtain ⟨k,e,f⟩ := l;obtain ⟨a,b,c⟩ := w;dsimp only;unfold MN;dsimp only;cases f
  all_goals
    refine dB T Tryz.func64 rfl rfl rfl rfl ?_
    (repeat' (first|refine wS ?_|refine wR ?_|(refine rg 0 (dX (gL rfl rfl) rfl (dX (gL rfl rfl) rfl (aV ?_))))|(refine rg 1 (jQ T rfl (jQ T rfl (vV (cT rfl rfl) (mV ?_))));refine bS rfl rfl ?_ ?_<;>(intro hb;rw [hb];(try simp only [nm] at hb);try (exfalso;omega));(all_goals first|(refine gT (fW T rfl (gT (lW T rfl (gT (vV (eJ rfl) ?_))))))|(iterate 3 refine gF ?_));(all_goals (refine pW rfl (mV ?_)));(all_goals first|(refine gT (fW T rfl (gT (lW T rfl (gT (fW T rfl (gT (lW T rfl (gT (vV (fT rfl rfl) ?_))))))))))|(iterate 5 refine gF ?_));(all_goals (refine pW rfl (aV ?_))))|refine nZ ?_));all_goals first | (exfalso;omega) | exact eG (.inl rfl) rfl (wL (by first | rfl | (simp;omega) | (simp [*];done)))
theorem QO (ls : List Lo) (b : Bo) (w : Wt) (hl : ls.length ≤ 1000000) (hb : b.1 < ls.length) : bJ Tryz.prog 101 [.rowE (lO ls) 3,.agg [.i b.1,.i b.2.1,.i b.2.2],.agg [.i w.1,.i w.2.1,.i w.2.2]] [] (.b (nB ls b w)) [] := by
  obtain ⟨l,n,t⟩ := b;dsimp only at hb ⊢;have hll := qZ ls;unfold nB;dsimp only;by_cases h0 : 0 ≤ l
  · rw [decide_eq_true h0,pS];have hg := U5 h0 hb;have hc := QN (ls.getD l.toNat (0,0,false)) w;generalize ls.getD l.toNat (0,0,false) = x at *;refine dB T Tryz.func101 rfl rfl rfl rfl ?_
    (repeat' (first|refine wS ?_|refine wR ?_|(refine rg 0 (dX (gL rfl rfl) rfl (dX (gL rfl rfl) rfl (aV ?_))))|(refine eS (id := 1) 19 ZF (rM 7 12) ZG fL rfl (by decide +kernel) (dP T rfl (dO T rfl (dV rfl (fT rfl rfl) (dM ?_))));refine yA rfl rfl rfl rfl ?_ ?_<;>(intro hb;rw [hb];(try simp only [nm] at hb);try (exfalso;omega))<;>(refine tM ?_);(all_goals (refine tP T rfl (tO T rfl (dT rfl (ix T rfl (by omega) (zP ls) hg) (tO T rfl (tO T rfl (dT rfl (kC (hc)) (dV rfl (mS rfl rfl) (dE ?_)))))));refine aV ?_)))|refine nZ ?_));all_goals first | (exfalso;omega) | exact rQ
  · rw [decide_eq_false h0,nW];refine dB T Tryz.func101 rfl rfl rfl rfl ?_
    (repeat' (first|refine wS ?_|refine wR ?_|(refine rg 0 (dX (gL rfl rfl) rfl (dX (gL rfl rfl) rfl (aV ?_))))|(refine eS (id := 1) 19 ZF (rM 7 12) ZG fL rfl (by decide +kernel) (dP T rfl (dO T rfl (dV rfl (fT rfl rfl) (dM ?_))));refine yA rfl rfl rfl rfl ?_ ?_<;>(intro hb;rw [hb];(try simp only [nm] at hb);try (exfalso;omega))<;>(refine dG ?_);(all_goals (refine tG rfl (tG rfl (tG rfl (tG rfl (tG rfl (tG rfl (dV rfl (nP rfl rfl) (dE ?_)))))));refine aV ?_)))|refine nZ ?_));all_goals first | (exfalso;omega) | exact rQ
theorem TN (ls : List Lo) (bs : List Bo) (i k : Int) (hl : ls.length ≤ 1000000) (hbl : bs.length ≤ 1000000) (hi : 0 ≤ i ∧ i < bs.length) (hk : 0 ≤ k ∧ k < bs.length)
    (h1 : 0 ≤ (bs.getD i.toNat (0,0,0)).1 ∧ (bs.getD i.toNat (0,0,0)).1 < ls.length) (h2 : 0 ≤ (bs.getD k.toNat (0,0,0)).1 ∧ (bs.getD k.toNat (0,0,0)).1 < ls.length) :
    bJ Tryz.prog 103 [.i i,.i k,.pr [.rowE (lO ls) 3] 0,.pr [.rowE (eX bs) 3] 0] [] (.i (CH (LR ls bs i) (LR ls bs k))) [] := by
  have hll := qZ ls;have hbb := eP bs;have q1 := V9 hi.1 hi.2;have q2 := V9 hk.1 hk.2;unfold LR;generalize bs.getD i.toNat (0,0,0) = x at *;generalize bs.getD k.toNat (0,0,0) = y at *;have q3 := U5 h1.1 h1.2;have q4 := U5 h2.1 h2.2;generalize ls.getD x.1.toNat (0,0,false) = u at *;generalize ls.getD y.1.toNat (0,0,false) = v at *;have hc := UH u.2.1 v.2.1;refine dB T Tryz.func103 rfl rfl rfl rfl ?_
  (repeat' (first|refine wS ?_|refine wR ?_|(refine rg 0 (aV ?_))|(refine eS (id := 1) 26 [[],[],[],[1,2],[1,2,3],rM 1 4,rN 6,rN 7,rN 8,[],[],[],[10,11],[10,11,12],rM 10 4,rM 9 6,rM 9 7,rM 9 8,rN 18] (rM 7 19) [[],[7],[7,8],[7],[7],[7],[],[],[],rM 7 9,rM 7 10,rM 7 11,rM 7 10,rM 7 10,rM 7 10,rM 7 9,rM 7 9,rM 7 9,[]] fL rfl (by decide +kernel) (dO T rfl (dO T rfl (dN rfl (dV rfl (ix T rfl (by omega) (oC bs) q1) (dP T rfl (dO T rfl (dV rfl (ix T rfl (by omega) (zP ls) q3) (dP T rfl (dL T ?_)))))))));refine dO T rfl (dO T rfl (dN rfl (dV rfl (ix T rfl (by omega) (oC bs) q2) (dP T rfl (dO T rfl (dV rfl (ix T rfl (by omega) (zP ls) q4) (dP T rfl (dO T rfl (dV rfl (kC (hc)) ?_)))))))));refine dE ?_;refine aV ?_)|refine nZ ?_));all_goals first | (exfalso;omega) | exact rQ
theorem HF {F : FuncId} {caps : List AV} {key : Int → Int} (l : List Int) (hl : l.length ≤ 20) (hi : AV.idfL caps = true)
    (hF : ∀ x y,x ∈ l → y ∈ l → bJ Tryz.prog F (.i x :: .i y :: caps) [] (.i (CH (key x) (key y))) []) :
    bJ Tryz.prog 119 [.sl 0 0 l.length 1,.i l.length,.clo (.func F) [] caps] [.arr (gO l) 1] (.tup []) [.arr (gO (kF key l)) 1] := by
  have hs : (kF key l).length = l.length := qQ;by_cases h0 : l.length = 0
  · obtain rfl : l = [] := iW.1 h0;have c1 := Q5 (F := F) (caps := caps) [] (by decide) hi
    refine dB T Tryz.func119 rfl rfl rfl rfl ?_
    (repeat' (first|refine wS ?_|refine wB ?_|(refine rg 0 (aV ?_))|(refine rg 1 (mW rfl (mY ?_)))|refine nZ ?_));refine eN (X := Unit) (fun _ => [(0,.sl 0 0 0 1),(1,.i 0),(2,.clo (.func F) [] caps),(6,.i 20),(7,.i 0),(8,.i 20)]) (fun _ => [.arr (gO []) 1]) (fun _ => 0) () ⟨[0],rfl,⟨rfl,rfl,by rw [fU hi];rfl,rfl,rfl,rfl,trivial⟩,⟨.inr rfl,trivial⟩,by decide,wQ⟩ ?_
    intro _;dsimp only
    (repeat' (first|refine wS ?_|refine wB ?_|refine wE ?_|refine wU ?_|(refine rg 2 (eW rfl (vV (iP rfl rfl) ?_)))|(refine rg 6 (eW rfl (eW rfl (cQ [0] rfl rfl c1 (by simp only [AV.mapL,fU hi];rfl) rfl (by decide) ⟨.inr rfl,trivial⟩ (by simp) rfl ?_))))|refine nZ ?_));all_goals try (exfalso;omega)
    refine eN (X := Unit) (fun _ => [(0,.sl 0 0 0 1),(1,.i 0),(6,.i 20)]) (fun _ => [.arr (gO []) 1]) (fun _ => 0) () ⟨[0],rfl,⟨rfl,rfl,rfl,trivial⟩,⟨.inr rfl,trivial⟩,by decide,wQ⟩ ?_
    intro _;dsimp only
    (repeat' (first|refine wS ?_|refine wE ?_|refine wU ?_|(refine rg 7 (eW rfl (vV (bB rfl rfl) ?_)))|refine nZ ?_));all_goals first | (exfalso;omega) | exact ⟨.inl rfl,[0],_,rfl,rfl,rfl,⟨.inr rfl,trivial⟩,by decide,wQ⟩ | exact ⟨.inr rfl,[0],_,rfl,rfl,rfl,⟨.inr rfl,trivial⟩,by decide,wQ⟩
  have hn : 0 < l.length := by omega
  have c2 := TR (F := F) (caps := caps) (key := key) l (by omega) hn hi hF
  have c3 := Q5 (F := F) (caps := caps) (kF key l) (by omega) hi
  rw [hs] at c3;rcases fY l.length 20 with hlt | hge
  · refine dB T Tryz.func119 rfl rfl rfl rfl ?_
    (repeat' (first|refine wS ?_|refine wB ?_|(refine rg 0 (aV ?_))|(refine rg 1 (mW rfl (mY ?_)))|refine nZ ?_));refine eN (X := Unit) (fun _ => [(0,.sl 0 0 l.length 1),(1,.i l.length),(2,.clo (.func F) [] caps),(6,.i 20),(7,.i 0),(8,.i 20)]) (fun _ => [.arr (gO l) 1]) (fun _ => 0) () ⟨[0],rfl,⟨rfl,rfl,by rw [fU hi];rfl,rfl,rfl,rfl,trivial⟩,⟨.inr (cN rfl rfl (fH _)),trivial⟩,by decide,wQ⟩ ?_
    intro _;dsimp only
    (repeat' (first|refine wS ?_|refine wB ?_|refine wE ?_|(refine wC rfl ?_ ?_<;>(intro hb;(try simp only [nm] at hb);try (exfalso;omega)))|(refine rg 2 (eW rfl (vV (iP rfl rfl) ?_)))|(refine rg 6 (eW rfl (eW rfl (cQ [0] rfl rfl c2 (by simp only [AV.mapL,fU hi];rfl) rfl (by decide) ⟨.inr (cN rfl rfl (fH _)),trivial⟩ (by simp) rfl ?_))))|refine nZ ?_));all_goals try (exfalso;omega)
    refine eN (X := Unit) (fun _ => [(0,.sl 0 0 l.length 1),(1,.i l.length),(6,.i 20)]) (fun _ => [.arr (gO (kF key l)) 1]) (fun _ => 0) () ⟨[0],rfl,⟨rfl,rfl,rfl,trivial⟩,⟨.inr (cN rfl (gS _ (fH _)) (fH _)),trivial⟩,by decide,wQ⟩ ?_
    intro _;dsimp only
    (repeat' (first|refine wS ?_|refine wE ?_|(refine wC rfl ?_ ?_<;>(intro hb;(try simp only [nm] at hb);try (exfalso;omega)))|(refine rg 7 (eW rfl (vV (bB rfl rfl) ?_)))|refine nZ ?_));all_goals first | (exfalso;omega) | exact ⟨.inl rfl,[0],_,rfl,rfl,rfl,⟨.inr (cN rfl rfl (fH _)),trivial⟩,by decide,wQ⟩ | exact ⟨.inr rfl,[0],_,rfl,rfl,rfl,⟨.inr (cN rfl rfl (fH _)),trivial⟩,by decide,wQ⟩
  · have h20 : l.length = 20 := by omega
    refine dB T Tryz.func119 rfl rfl rfl rfl ?_
    (repeat' (first|refine wS ?_|refine wB ?_|(refine rg 0 (aV ?_))|(refine rg 1 (mW rfl (mY ?_)))|refine nZ ?_));refine eN (X := Bool) (fun b => [(0,.sl 0 0 l.length 1),(1,.i l.length),(2,.clo (.func F) [] caps),(6,.i 20),(7,.i (cond b 20 0)),(8,.i (cond b 40 20))]) (fun b => [.arr (gO (cond b (kF key l) l)) 1]) (fun b => cond b 0 1) false ⟨[0],rfl,⟨rfl,rfl,by rw [fU hi];rfl,rfl,rfl,rfl,trivial⟩,⟨.inr (cN rfl rfl (fH _)),trivial⟩,by decide,wQ⟩ ?_
    rw [h20] at c2 c3;rintro (_ | _)
    · dsimp only [cond]
      (repeat' (first|refine wS ?_|refine wB ?_|refine wK ?_|(refine wC rfl ?_ ?_<;>(intro hb;(try simp only [nm] at hb);try (exfalso;omega)))|(refine rg 2 (eW rfl (vV (iP rfl rfl) ?_)))|(refine rg 3 (eW rfl (eW rfl (cQ [0] rfl rfl c2 (by rw [h20];simp only [AV.mapL,fU hi];rfl) rfl (by decide) ⟨.inr (cN rfl rfl (fH _)),trivial⟩ (by simp) rfl ?_))))|(refine rg 4 (mW rfl (aV ?_)))|(refine rg 5 (eW rfl (vV (eE rfl rfl (by omega) (by omega)) (aV ?_))))|refine nZ ?_));all_goals first | (exfalso;omega) | exact ⟨true,by decide,⟨[0],rfl,⟨rfl,rfl,by rw [fU hi];rfl,rfl,rfl,rfl,trivial⟩,⟨.inr (cN rfl (gS _ (fH _)) (fH _)),trivial⟩,by decide,wQ⟩⟩
    · dsimp only [cond]
      (repeat' (first|refine wS ?_|refine wB ?_|refine wE ?_|(refine wC rfl ?_ ?_<;>(intro hb;(try simp only [nm] at hb);try (exfalso;omega)))|(refine rg 2 (eW rfl (vV (iP rfl rfl) ?_)))|(refine rg 6 (eW rfl (eW rfl (cQ [0] rfl rfl c3 (by rw [h20];simp only [AV.mapL,fU hi];rfl) rfl (by decide) ⟨.inr (cN rfl rfl (fH _)),trivial⟩ (by simp) rfl ?_))))|refine nZ ?_));all_goals try (exfalso;omega)
      refine eN (X := Unit) (fun _ => [(0,.sl 0 0 l.length 1),(1,.i l.length),(6,.i 20)]) (fun _ => [.arr (gO (kF key l)) 1]) (fun _ => 0) () ⟨[0],rfl,⟨rfl,rfl,rfl,trivial⟩,⟨.inr (cN rfl (gS _ (fH _)) (fH _)),trivial⟩,by decide,wQ⟩ ?_
      intro _;dsimp only
      (repeat' (first|refine wS ?_|refine wE ?_|(refine wC rfl ?_ ?_<;>(intro hb;(try simp only [nm] at hb);try (exfalso;omega)))|(refine rg 7 (eW rfl (vV (bB rfl rfl) ?_)))|refine nZ ?_));all_goals first | (exfalso;omega) | exact ⟨.inl rfl,[0],_,rfl,rfl,rfl,⟨.inr (cN rfl rfl (fH _)),trivial⟩,by decide,wQ⟩ | exact ⟨.inr rfl,[0],_,rfl,rfl,rfl,⟨.inr (cN rfl rfl (fH _)),trivial⟩,by decide,wQ⟩
theorem L3 {F : FuncId} {caps : List AV} {key : Int → Int} (l : List Int) (hl : l.length ≤ 20) (hi : AV.idfL caps = true)
    (hF : ∀ x y,x ∈ l → y ∈ l → bJ Tryz.prog F (.i x :: .i y :: caps) [] (.i (CH (key x) (key y))) []) :
    bJ Tryz.prog 102 [.sl 0 0 l.length 1,.clo (.func F) [] caps] [.arr (gO l) 1] (.tup []) [.arr (gO (kF key l)) 1] := by
  have c1 := HF (F := F) (caps := caps) (key := key) l hl hi hF;refine dB T Tryz.func102 rfl rfl rfl rfl ?_
  (repeat' (first|(refine rg 0 (eW rfl (qW T rfl (mW rfl (cQ [0] rfl rfl c1 (by simp only [AV.mapL,fU hi];rfl) rfl (by decide) ⟨.inr (cN rfl rfl (fH _)),trivial⟩ (by simp) rfl ?_)))))|refine nZ ?_));all_goals first | (exfalso;omega) | exact ⟨.inl rfl,[0],_,rfl,rfl,rfl,⟨.inr (cN rfl (gS _ (fH _)) (fH _)),trivial⟩,by decide,wQ⟩ | exact ⟨.inr rfl,[0],_,rfl,rfl,rfl,⟨.inr (cN rfl (gS _ (fH _)) (fH _)),trivial⟩,by decide,wQ⟩
theorem PM (ls : List Lo) (bs : List Bo) (w : Wt) (hl : ls.length ≤ 1000000) (hb : bs.length ≤ 20) (hk : K5 ls bs) :
    bJ Tryz.prog 54 [.rowE (lO ls) 3,.rowE (eX bs) 3,.agg [.i w.1,.i w.2.1,.i w.2.2]] [] (.sl 0 0 (rY ls bs w).length 1) [.arr (gO (rY ls bs w)) 1] := by
  have hll := qZ ls;have hbb := eP bs;have hsl := F8 (ls := ls) (bs := bs) (w := w) (n := bs.length);have hso : (rY ls bs w).length = (vR ls bs w bs.length).length := qQ;have hmem : ∀ x,x ∈ vR ls bs w bs.length → (0 ≤ x ∧ x < bs.length) ∧ 0 ≤ (bs.getD x.toNat (0,0,0)).1 ∧ (bs.getD x.toNat (0,0,0)).1 < ls.length := fun x hx => by
    have h1 := xI.1 (show x ∈ rY ls bs w from zC.2 hx)
    refine ⟨h1.1,?_,(hk x.toNat (by omega)).2⟩
    have h2 := h1.2.2;unfold nB at h2;simp only [aL,decide_eq_true_eq] at h2;exact h2.1
  have hsrt := L3 (F := 103) (caps := [.pr [.rowE (lO ls) 3] 0,.pr [.rowE (eX bs) 3] 0]) (key := LR ls bs) (vR ls bs w bs.length) (by omega) rfl fun x y hx hy =>
    TN ls bs x y hl (by omega) (hmem x hx).1 (hmem y hy).1 (hmem x hx).2 (hmem y hy).2
  refine dB T Tryz.func54 rfl rfl rfl rfl ?_
  (repeat' (first|refine wS ?_|(refine rg 0 (dX (gL rfl rfl) rfl (dX (gL rfl rfl) rfl (dX (gL rfl rfl) rfl (aV ?_)))))|refine nZ ?_));refine gV 3 (cs := [.rowE (lO ls) 3]) rfl rfl rfl ?_
  refine gV 4 (cs := [.rowE (eX bs) 3]) rfl rfl rfl ?_;refine gV 5 (cs := [.i w.1,.i w.2.1,.i w.2.2]) rfl rfl rfl ?_
  (repeat' (first|refine wS ?_|(refine rg 1 (aV ?_))|refine nZ ?_));refine J3 7 1 rfl (by decide) ?_
  (repeat' (first|refine wB ?_|(refine rg 2 (lW T rfl (qW T rfl (mV ?_))))|refine nZ ?_));refine eN (X := {k : Nat // k ≤ bs.length}) (fun k => [(3,.pr [.rowE (lO ls) 3] 0),(4,.pr [.rowE (eX bs) 3] 0),(5,.pr [.i w.1,.i w.2.1,.i w.2.2] 0),(7,.sl 0 0 (vR ls bs w k.1).length 1),(10,.rowE (eX bs) 3),(11,.i (eX bs).length),(12,.i k.1)]) (fun k => [.arr (gO (vR ls bs w k.1)) 1]) (fun k => bs.length - k.1) ⟨0,bP _⟩ ⟨[3],rfl,by (repeat (first | exact trivial | refine ⟨rfl,?_⟩)),⟨.inr rfl,trivial⟩,by decide,mR _⟩ ?_
  rintro ⟨k,hk2⟩;dsimp only;by_cases hlt : k < bs.length
  · have hg := E3 hlt;have hsk := F8 (ls := ls) (bs := bs) (w := w) (n := k);have hss := HJ (ls := ls) (bs := bs) (w := w) (k := k);have hlk := hk k hlt;have hcn : cnt bs k = (bs.getD k (0,0,0)).2.1 := by unfold cnt;rw [bK]
    rw [hcn] at hss;have hnl := uU (vR ls bs w k);generalize bs.getD k (0,0,0) = x at *;have hf := QO ls x w hl hlk.2;generalize vR ls bs w k = S at *;by_cases hc : 0 < x.2.1 ∧ nB ls x w = true
    · rw [if_pos hc] at hss;rw [hc.2] at hf;have hc1 := hc.1;obtain ⟨xl,xc,xt⟩ := x;dsimp only at *
      (repeat' (first|refine wS ?_|refine wB ?_|refine wK ?_|refine wT ?_|(refine wC rfl ?_ ?_<;>(intro hb;(try simp only [nm] at hb);try (exfalso;omega)))|(refine rg 3 (vV (bB rfl rfl) ?_))|(refine rg 4 (mW rfl (vV (ix T rfl (by omega) (oC bs) hg) (lW T rfl (dX (dH T rfl) rfl (aW rfl (bH T rfl rfl rfl rfl rfl rfl (by decide) rfl ?_)))))))|(refine rg 5 (jQ T rfl (vV (gJ rfl rfl) (mV ?_)));refine bS rfl rfl ?_ ?_<;>(intro hb;rw [hb];(try simp only [nm] at hb);try (exfalso;omega));(all_goals (refine yO T rfl (yO T rfl (yO T rfl (yV (kC (hf)) (pV ?_)))))))|(refine rg 6 (eW rfl (dX (by exact cK T rfl rfl (by decide) (by decide) rfl rfl rfl) rfl ?_));refine iK T rfl rfl rfl rfl rfl rfl (by omega) (kV.whole rfl rfl) rfl (by simp;omega) (by simp;omega) rfl ?_;refine aV ?_)|(refine rg 7 (vV (eE rfl rfl (by omega) (by omega)) (mV ?_)))|refine nZ ?_));all_goals first | (exfalso;omega) | exact ⟨⟨k + 1,hlt⟩,by dsimp only;omega,⟨[3],rfl,⟨rfl,rfl,rfl,by dsimp only;rw [hss,aC];rfl,rfl,rfl,rfl,trivial⟩,⟨.inr (cN rfl (by dsimp only;rw [hss];exact TG S _) (fH _)),trivial⟩,by decide,mR _⟩⟩
    · rw [if_neg hc] at hss;by_cases hc1 : 0 < x.2.1
      · have hf0 : nB ls x w = false := by cases e : nB ls x w with
          | false => rfl
          | true => exact absurd ⟨hc1,e⟩ hc
        rw [hf0] at hf;obtain ⟨xl,xc,xt⟩ := x;dsimp only at *
        (repeat' (first|refine wS ?_|refine wB ?_|refine wK ?_|refine wU ?_|(refine wC rfl ?_ ?_<;>(intro hb;(try simp only [nm] at hb);try (exfalso;omega)))|(refine rg 3 (vV (bB rfl rfl) ?_))|(refine rg 4 (mW rfl (vV (ix T rfl (by omega) (oC bs) hg) (lW T rfl (dX (dH T rfl) rfl (aW rfl (bH T rfl rfl rfl rfl rfl rfl (by decide) rfl ?_)))))))|(refine rg 5 (jQ T rfl (vV (gJ rfl rfl) (mV ?_)));refine bS rfl rfl ?_ ?_<;>(intro hb;rw [hb];(try simp only [nm] at hb);try (exfalso;omega));(all_goals (refine yO T rfl (yO T rfl (yO T rfl (yV (kC (hf)) (pV ?_)))))))|(refine rg 7 (vV (eE rfl rfl (by omega) (by omega)) (mV ?_)))|refine nZ ?_));all_goals first | (exfalso;omega) | exact ⟨⟨k + 1,hlt⟩,by dsimp only;omega,⟨[0],rfl,⟨rfl,rfl,rfl,by dsimp only;rw [hss];rfl,rfl,rfl,rfl,trivial⟩,⟨.inr (cN rfl (by dsimp only;rw [hss]) (fH _)),trivial⟩,by decide,mR _⟩⟩
      · obtain ⟨xl,xc,xt⟩ := x;dsimp only at *
        (repeat' (first|refine wS ?_|refine wB ?_|refine wK ?_|refine wU ?_|(refine wC rfl ?_ ?_<;>(intro hb;(try simp only [nm] at hb);try (exfalso;omega)))|(refine rg 3 (vV (bB rfl rfl) ?_))|(refine rg 4 (mW rfl (vV (ix T rfl (by omega) (oC bs) hg) (lW T rfl (dX (dH T rfl) rfl (aW rfl (bH T rfl rfl rfl rfl rfl rfl (by decide) rfl ?_)))))))|(refine rg 5 (jQ T rfl (vV (gJ rfl rfl) (mV ?_)));refine bS rfl rfl ?_ ?_<;>(intro hb;rw [hb];(try simp only [nm] at hb);try (exfalso;omega));(all_goals ((iterate 4 refine gF ?_);refine pV ?_)))|(refine rg 7 (vV (eE rfl rfl (by omega) (by omega)) (mV ?_)))|refine nZ ?_));all_goals first | (exfalso;omega) | exact ⟨⟨k + 1,hlt⟩,by dsimp only;omega,⟨[0],rfl,⟨rfl,rfl,rfl,by dsimp only;rw [hss];rfl,rfl,rfl,rfl,trivial⟩,⟨.inr (cN rfl (by dsimp only;rw [hss]) (fH _)),trivial⟩,by decide,mR _⟩⟩
  · obtain rfl : k = bs.length := by omega
    (repeat' (first|refine wS ?_|refine wR ?_|refine wE ?_|(refine wC rfl ?_ ?_<;>(intro hb;(try simp only [nm] at hb);try (exfalso;omega)))|(refine rg 3 (vV (bB rfl rfl) ?_))|(refine rg 8 (mW rfl (vV (by exact uC rfl rfl) ?_));refine cQ [0] rfl rfl hsrt (by simp only [AV.mapL];rfl) rfl (by decide) ⟨.inr (cN rfl rfl (fH _)),trivial⟩ (by simp) rfl ?_)|(refine rg 9 (mW rfl (aV ?_)))|refine nZ ?_));all_goals first | (exfalso;omega) | exact ⟨.inl rfl,[0],_,rfl,(by rw [← hso];rfl),rfl,⟨.inr (cN rfl (gS _ (fH _)) (fH _)),trivial⟩,by decide,mR _⟩
end Go.Proofs.YtdiogjgohbbllaaGreatDoor
namespace Go.Ab
open Go
theorem G3 {α : Type} : ∀ (xs A B C : List α), B.length = xs.length → gN (A ++ B ++ C) A.length xs = A ++ xs ++ C
  | [],A,B,C,h => by
    have : B = [] := bM h;subst this;simp [gN]
  | x :: xs,A,[],C,h => by simp at h
  | x :: xs,A,b :: B,C,h => by
    have e : (A ++ (b :: B) ++ C).set A.length x = (A ++ [x]) ++ B ++ C := by simp
    have ih := G3 xs (A ++ [x]) B C (by simpa using h)
    rw [aC,bE] at ih;show gN ((A ++ (b :: B) ++ C).set A.length x) (A.length + 1) xs = _;rw [e,ih];simp
theorem AS {α : Type} {xs B : List α} (h : B.length = xs.length) : gN B 0 xs = xs := by
  have := G3 xs [] B [] h;simpa using this
section
variable {P : Program} {n : Nat × Nat} {ops : Array Oper} {rest : List Oper} {env : cJ} {h : Hp} {K : cJ → Hp → Prop}
variable {ty : TypeId} {pos : String} {af : Array Edge}
theorem ON (T : lJ P) {t e k m sz dd : Nat} {ats : Array TypeId} {i : TI} {x y : Operand} {v : AV} {ds es : List (List AV)} (hx : evu env x = some (.sl k 0 m sz)) (hy : evu env y = some v) (hat : ats[0]? = some t) (ht : T.elem t = some e) (he : T.ti e = some i) (hs : i.size = sz)
    (hkk : h[k]? = some (.arr ds sz)) (hn : kV h v es sz) (h1 : es.flatten.all AV.one = true) (hd1 : ds.length = m) (hd2 : es.length = m) (hd : zI (some dd) n = true)
    (hk : VC P n ops rest ((dd,.i m) :: env) (h.set k (.arr es sz)) K) :
    VC P n ops (⟨some dd,.call { callee := .builtin .copy,args := #[x,y],argTypes := ats },ty,pos,af,none⟩ :: rest) env h K := by
  intro c ρ S a w Q s hQ;refine wpList_plain rfl fun K' hK' => ?_
  have p := s.pre;have hxv := p.evu hx;obtain ⟨a2,c2,zs,y1,y2,y3,y4,y5,y6,y7⟩ := oY p.blk (p.evu hy) hn;obtain ⟨inf,z,t1,t2,t3,t4,t5,t6,t7⟩ := T.tiOk e i he;have hone := xJ y6 h1;have hB := p.blk k _ hkk;simp only [RB] at hB;obtain ⟨hes,hs0,hB⟩ := hB;have hel : ∀ q,q ∈ es → q.length = sz := by
    cases hn with
    | sl hk2 _ =>
      have := p.blk _ _ hk2;simp only [RB] at this;exact fun q hq => this.1 q (gD (gC hq))
    | row h => exact h
    | nil => exact fun q hq => by cases hq
  simp only [R] at hxv;obtain ⟨a1,c1,x1,x2,x3⟩ := hxv;rw [hd2] at y1 y5 y7;have hf := oU (P := P) (w := w) (size := inf.size) (m := m) (cap := c2) (a := a2) (by rw [t2,hs];exact y5) y7
  have ev1 : ∀ r w',(Builtin.copy_ ats ty #[a.eval x,a.eval y]).run P w = .ok r w' → (execOp a.eval ⟨some dd,.call { callee := .builtin .copy,args := #[x,y],argTypes := ats },ty,pos,af,none⟩).run P w = .ok (.value r) w' := fun r w' hr => by
    simp [execOp,resolve,invoke,builtin,hr]
  have hund := run_underlying (P := P) (T.elemOk _ _ ht) w;have hsz : (sizeOf e).run P w = .ok inf.size w := by simp [sizeOf,typeInfo,t1]
  by_cases hm : m = 0
  · subst hm;have hz : zs = [] := bM (by rw [y5];simp)
    subst hz;have hde : ds = [] := bM hd1;have hee : es = [] := bM hd2;subst hde hee;have hset : h.set k (.arr [] sz) = h := by
      apply cS;intro j;rw [bT];split
      · rename_i e;subst e;rw [hkk];simp [(aA.1 hkk).1]
      · rfl
    have hr : (Builtin.copy_ ats ty #[a.eval x,a.eval y]).run P w = .ok (.int .i64 0) w := by
      rw [x1,y1];cases a1 with
      | none => simp [Builtin.copy_,hat,hund,Builtin.lenOf,hsz,hf,goInt,Nat.min_def]
      | some a1 => simp [Builtin.copy_,hat,hund,Builtin.lenOf,hsz,hf,storeCells,goInt,Nat.min_def]
    unfold Oper.wp;rw [ev1 _ _ hr];rw [hset] at hk;exact hK' _ _ (hk c ρ S _ w Q ⟨by rw [gB];exact s.size,by rw [eO];exact s.defers,kJ s.size hd s.env (by simp [R]),s.hs,s.cm⟩ hQ)
  · rcases x3 with ⟨x3,_⟩ | ⟨b,o,x4,x5,x6,x7⟩
    · exact absurd x3 hm
    rw [ZA,Nat.add_zero] at x5;rcases hB with ⟨hB,_⟩ | ⟨b',o',ys,z1,⟨cc,ee,z2,z3⟩,z4⟩
    · subst hB;exact absurd hd1.symm hm
    rw [x4] at z1;cases z1;have hyl := dW z4;have hfl := dS hes;have hfl2 := dS hel;have hzl : zs.length = ys.length := by rw [y5,hyl,hfl,hd1]
    have hzp : 0 < zs.length := by rw [y5];exact Nat.mul_pos (by omega) hs0
    obtain ⟨f1,f2,f3⟩ := uA (off := 0) (zs := zs) z2 z3 (by omega) hzp
    have hst := run_storeCells_at P b o ee zs 0 cc w z2 (by simpa using f1) hone
    simp only [Nat.add_zero] at hst f1 f2 f3;have hr : (Builtin.copy_ ats ty #[a.eval x,a.eval y]).run P w = .ok (.int .i64 m) (w.setRow b (cc.toList.take o ++ zs ++ cc.toList.drop (o + zs.length)).toArray) := by
      rw [x1,y1,x5];simp [Builtin.copy_,hat,hund,Builtin.lenOf,hsz,hf,hst,goInt,Nat.min_def]
    unfold Oper.wp;rw [ev1 _ _ hr]
    obtain ⟨g1,g2⟩ := s.hs.upd (nb := .arr es sz) hkk (by simp) x4 (mB z2 f3) (fun l => by
      simp only [RB];refine ⟨hel,hs0,.inr ⟨b,o,_,rfl,f2,?_⟩⟩;rw [AS (xs := zs) (B := ys) hzl.symm]
      exact y6.later l)
    exact hK' _ _ (hk c ρ S _ _ Q ⟨by rw [gB];exact s.size,by rw [eO];exact s.defers.later g2,kJ s.size hd (fun tt uu huu => (s.env tt uu huu).later g2) (by simp [R]),g1,s.cm⟩ hQ)
end
def XO {P : Program} (T : lJ P) (rs : List ResultVar) (Φ : AV → Hp → Prop) (e : Exit) (v : cJ) (h : Hp) : Prop := (e = .ret ∨ e = .normal) ∧ ∃ xs,pU T v h rs = some xs ∧ Φ (qU xs) h
theorem jM {P : Program} (T : lJ P) {f : FuncId} {fn : Func} {code : Code} {n : Nat} {args : List AV} {hin : Hp} {Φ : AV → Hp → Prop} (hf : P.funcs[f]? = some fn) (hb : fn.body = some code) (hnm : (fn.name == "runtime.NumGoroutine") = false) (hn : fn.ntmps = n) (ha : Nat.ble args.length n = true)
    (haw : AW P (n,hin.length) code (oD 0 args) hin (XO T fn.results.toList Φ)) : eQ P f args hin Φ := by
  refine ⟨⟨fn,hf,hnm,by rw [hb];rfl⟩,?_⟩
  intro ρ S w vs hs hargs;have hlen := dW hargs;have hle := bA ha;refine (callsIn_wide (n := 0)).1 (callsIn_of_wp_marks (F := Fence.wide) hf hb trivial ?_ rfl);refine haw (gM w ρ S hin) ρ S _ w _ ⟨?_,oK.nil rfl _ _,fun t x hx => ?_,hs,rfl⟩ ?_
  · simp [hn];omega
  · obtain ⟨_,h1⟩ := qD hx;simp only [ZB] at h1;obtain ⟨y,h2,h3⟩ := kU hargs t x h1;have hlt : t < vs.length := (aA.1 h2).1;have : (vs.toArray ++ Array.replicate (fn.ntmps - vs.toArray.size) undef).getD t undef = y := by
      rw [cC,jW (by simpa using hlt)]
      simp [h2]
    rw [this];exact h3
  · intro e env' h' ρ' S' a' w' hq s;obtain ⟨he,xs,h1,hΦ⟩ := hq;have fin : ∀ S2 w2,HS (gM w ρ S hin) ρ' S2 h' w2 → (∀ x y,R S' w' x ρ' y → R S2 w2 x ρ' y) → ∃ v,(results fn a'.tmps).run P w2 = .ok v w2 ∧ (fun e w' => ∃ res hout,Φ res hout ∧ ∃ y ρ' S',e = Ending.returned y ∧ HS (gM w ρ S hin) ρ' S' hout w' ∧ R S' w' res ρ' y) (.returned v) w2 := fun S2 w2 s2 hr => by
      obtain ⟨ys,h7,h8⟩ := nN T s2.blk (fun t x hx => hr _ _ (s.env t x hx)) h1;have hres : ∃ y,(results fn a'.tmps).run P w2 = .ok y w2 ∧ R S2 w2 (qU xs) ρ' y := by
        have hm : (fn.results.mapM (pB a'.tmps)).run P w2 = .ok ys.toArray w2 := by
          rw [A6];simp only [Sem.run_map,h7,Result.andThen_ok]
        have hl := dW h8;rw [vW];simp only [Sem.run_bind,hm,Result.andThen_ok,Sem.run_pure];refine ⟨_,rfl,?_⟩
        match xs,ys,h8,hl with
        | [x],[y],h8,_ =>
          simp only [RL] at h8;obtain ⟨y',zs,e1,h9,_⟩ := h8;cases e1;simpa [qU] using h9
        | [],[],h8,_ =>
          simp only [qU,R];exact ⟨#[],by simp,by simp [RL]⟩
        | x :: x2 :: xs,y :: y2 :: ys,h8,_ =>
          simp only [qU,R];refine ⟨(y :: y2 :: ys).toArray,?_,by simpa using h8⟩
          rw [dif_neg (by simp)]
      obtain ⟨y,h9,h10⟩ := hres;exact ⟨y,h9,qU xs,h',hΦ,y,_,S2,rfl,s2,h10⟩
    obtain ⟨⟨D,hD1,hD2,hD3⟩,_⟩ := s.defers;have hl : LeavesInM Fence.wide 0 P fn a'.tmps (fun e w' => ∃ res hout,Φ res hout ∧ ∃ y ρ' S',e = Ending.returned y ∧ HS (gM w ρ S hin) ρ' S' hout w' ∧ R S' w' res ρ' y) a'.defers .returning w' := by
      rw [hD1];exact tZ (c := gM w ρ S hin) (aO _) (fun b hb => hs.stab b hb) D S' w' s.hs hD2 hD3 fin
    rcases he with rfl | rfl
    · exact hl
    · exact hl
theorem CG {l : List Oper} {pres : List (List Nat)} {ds : List Nat} {bads : List (List Nat)} {n s k s2 k2 : Nat} (h : iO l pres ds bads n = true) (hs : Nat.blt s pres.length = true) (hs2 : Nat.blt s2 pres.length = true) (hne : Nat.beq s2 s = false) (hr : (pres.getD s2 []).any (Nat.beq s) = true) :
    fM l pres ds bads [(s,k),(s2,k2)] n = true := by
  simp only [fM,DA,h,hs,hs2,hne,hr,GY,List.all_nil,Bool.not_false,oG,Bool.and_true,pS]
theorem JO {h : Hp} {k off : Nat} {cs xs : List AV} (hk : h[k]? = some (.cells cs)) (hl : Nat.ble (off + xs.length) cs.length = true) : L2 h (.ptr k off) xs = some (k,.cells (gN cs off xs)) := by simp only [L2,hk,hl]
theorem tW {P : Program} {env : cJ} {h : Hp} {d : Option Nat} {ty : TypeId} {pos : String} {af : Array Edge} {g : Option (Nat × Bool)} {x : Operand} {u z : AV} (hx : evu env x = some u) (hz : u.plus 0 = some z) : GX P ⟨d,.nilCheck x,ty,pos,af,g⟩ env h u := by
  intro ρ S a w p;obtain ⟨b,o,h1,h2⟩ := qT (p.evu hx) hz;have h3 := p.evu hx;rw [h1] at h3;exact ⟨_,fun w' => by simp [execOp,h1],h3⟩
end Go.Ab
namespace Go.Ab
theorem bW {H Z : Hp} {k : Nat} {b : AB} (h : H[k]? = some b) : (H ++ Z)[k]? = some b := by
  rw [aG (aA.1 h).1];exact h
theorem fZ {H : Hp} {k q : Nat} {b x : AB} (hk : k ≠ q) (h : H[k]? = some b) : (H.set q x)[k]? = some b := by
  rw [gE (Ne.symm hk)];exact h
theorem gI {H : Hp} {q : Nat} {x : AB} (h : q < H.length) : (H.set q x)[q]? = some x := by
  rw [fK h]
theorem cP {H : Hp} {b : AB} : (H ++ [b])[H.length]? = some b := by simp
theorem vU {H Z : Hp} (h : OI H) (z : OI Z) : OI (H ++ Z) := fun b hb => by
  rcases bD.1 hb with hb | hb
  · exact h b hb
  · exact z b hb
theorem vT {b : AB} (h : b.rf = true) : OI [b] := fun x hx => by rw [bL.1 hx];exact .inr h
theorem DR {H : Hp} {q : Nat} {x : AB} (h : OI H) (z : x = .gone ∨ x.rf = true) : OI (H.set q x) := fun b hb => by
  obtain ⟨j,hj⟩ := bR.1 hb;rw [bT] at hj;split at hj
  · split at hj
    · cases hj;exact z
    · cases hj
  · exact h b (aH hj)
end Go.Ab
namespace Go.Or
open Go Go.Ab
theorem SO (l : List Tk) : (AB.arr (eI l) 2).rf = true := aT.2 fun e he => by obtain ⟨i,_,rfl⟩ := aJ.1 he;rfl
theorem tU (l : List Bo) : (AB.arr (eX l) 3).rf = true := aT.2 fun e he => by obtain ⟨i,_,rfl⟩ := aJ.1 he;rfl
theorem SR (N : List (Nat × List Tk)) : (AB.arr (kO N) 1).rf = true := aT.2 fun e he => by obtain ⟨i,_,rfl⟩ := aJ.1 he;rfl
theorem V8 (l : List Bo) : AV.plOL (eX l).flatten = true := G7 (fun _ => rfl) _
theorem JV (l : List Tk) (x : Tk) : (List.take l.length (List.drop 0 (eI l))) ++ [[AV.i x.1,AV.i x.2]] = eI (l ++ [x]) := by
  rw [cY,aY (by simp)];simp
theorem NA {bs : List Bo} {j : Int} {x : Bo} : (eX bs).set j.toNat [AV.i x.1,AV.i x.2.1,AV.i x.2.2] = eX (bs.set j.toNat x) := by
  show _ = List.map (fun b : Bo => [AV.i b.1,AV.i b.2.1,AV.i b.2.2]) (bs.set j.toNat x);rw [oF]
theorem qF.more {X Y : Hp} {N : List (Nat × List Tk)} (h : qF X N) (hf : ∀ e,e ∈ N → ∀ b,X[e.1]? = some b → Y[e.1]? = some b) : qF Y N := fun e he => by
  exact hf e he _ (h e he)
structure OJ (left0 : List Bo) (ord : List Int) (need0 : Int) (N : List (Nat × List Tk)) (p : Nat) (X : Hp) (j : Nat) (left : List Bo) (tk : List Tk) (need : Int) (q : Nat) : Prop where
  jl : j ≤ ord.length
  eq : kE ord left0 need0 = (tk ++ (kE (ord.drop j) left need).1,(kE (ord.drop j) left need).2)
  len : left.length = left0.length
  nn : ∀ b : Int,0 ≤ b → 0 ≤ cnt left b ∧ cnt left b ≤ 20000
  lot : ∀ b : Int,0 ≤ b → (left.getD b.toNat (0,0,0)).1 = (left0.getD b.toNat (0,0,0)).1
  n0 : 0 ≤ need ∧ need ≤ 20000
  tl : tk.length ≤ j
  h0 : X[0]? = some (.arr (eX left) 3)
  hp : X[p]? = some (.arr (kO N) 1)
  hn : qF X N
  hq : X[q]? = some (.arr (eI tk) 2)
  nd : (0 :: p :: q :: N.map (·.1)).Nodup
  rf : OI X
theorem DI {i : Int} {l : List Int} {left : List Bo} {need : Int} (h : min need (cnt left i) ≠ 0) : kE (i :: l) left need =
    ((i,min need (cnt left i)) :: (kE l (oR left i (min need (cnt left i))) (need - min need (cnt left i))).1,(kE l (oR left i (min need (cnt left i))) (need - min need (cnt left i))).2) := by
  rw [kE,if_neg h]
theorem OJ.next {left0 : List Bo} {ord : List Int} {need0 : Int} {N : List (Nat × List Tk)} {p : Nat} {X : Hp} {j : Nat} {left : List Bo} {tk : List Tk} {need : Int} {q : Nat} (h : OJ left0 ord need0 N p X j left tk need q)
    (hj : j < ord.length) (ho : ∀ i,i ∈ ord → 0 ≤ i ∧ i < left0.length) (hm : min need (cnt left ord[j]) ≠ 0) :
    OJ left0 ord need0 N p (((X ++ [AB.arr [[AV.i ord[j],AV.i (min need (cnt left ord[j]))]] 2]).set q AB.gone ++ [AB.arr (eI (tk ++ [(ord[j],min need (cnt left ord[j]))])) 2]).set 0 (AB.arr (eX (oR left ord[j] (min need (cnt left ord[j])))) 3)) (j + 1) (oR left ord[j] (min need (cnt left ord[j]))) (tk ++ [(ord[j],min need (cnt left ord[j]))]) (need - min need (cnt left ord[j])) (X ++ [AB.arr [[AV.i ord[j],AV.i (min need (cnt left ord[j]))]] 2]).length := by
  obtain ⟨i0,i1⟩ := ho _ (aK hj);have hd := aS hj;have heq := h.eq;rw [hd,DI hm] at heq;have hil : ord[j] < left.length := by rw [h.len];exact i1
  have hc := h.nn ord[j] i0;have hn0 := h.n0;generalize ord[j] = i at *;have hnn : 0 ≤ min need (cnt left i) ∧ min need (cnt left i) ≤ need ∧ min need (cnt left i) ≤ cnt left i := by omega
  generalize min need (cnt left i) = n at *;have hnd := h.nd;simp only [aN,aQ,not_or] at hnd;obtain ⟨⟨a1,a2,a3⟩,⟨a4,a5⟩,a6,a7⟩ := hnd;have hql := (aA.1 h.hq).1;have hpl := (aA.1 h.hp).1;have h0l := (aA.1 h.h0).1;have hnl : ∀ e,e ∈ N → e.1 < X.length := fun e he => by
    have h1 := h.hn e he;exact (aA.1 h1).1
  have hmem : ∀ e,e ∈ N → e.1 ∈ N.map (·.1) := fun e he => aJ.2 ⟨e,he,rfl⟩
  have keep : ∀ {k : Nat} {b : AB},X[k]? = some b → k ≠ q → k ≠ 0 → ((((X ++ [AB.arr [[AV.i i,AV.i n]] 2]).set q AB.gone) ++ [AB.arr (eI (tk ++ [(i,n)])) 2]).set 0 (AB.arr (eX (oR left i n)) 3))[k]? = some b := fun hk h1 h2 =>
    fZ h2 (bW (fZ h1 (bW hk)))
  refine ⟨hj,by rw [heq];simp,by rw [lQ];exact h.len,fun b hb => ?_,fun b hb => ?_,by omega,?_,gI (by simp),keep h.hp (fun e => a4 e) (fun e => a1 e.symm),?_,?_,?_,?_⟩
  · rw [rD i0 hil hb];have := h.nn b hb;split <;> omega
  · rw [yB i0 hil hb];exact h.lot b hb
  · rw [aC,bE];have := h.tl;omega
  · exact h.hn.more fun e he b hb => keep hb (fun e1 => a6 (e1 ▸ hmem e he)) (fun e1 => a3 (e1 ▸ hmem e he))
  · refine fZ (by simp) ?_
    have e1 : (X ++ [AB.arr [[AV.i i,AV.i n]] 2]).length = ((X ++ [AB.arr [[AV.i i,AV.i n]] 2]).set q .gone).length := by simp
    rw [e1];exact cP
  · have hz : (X ++ [AB.arr [[AV.i i,AV.i n]] 2]).length = X.length + 1 := by simp
    rw [hz];simp only [aN,aQ,not_or];refine ⟨⟨a1,by omega,a3⟩,⟨by omega,a5⟩,fun hm => ?_,a7⟩
    obtain ⟨e,he,e1⟩ := aJ.1 hm;have := hnl e he;omega
  · exact DR (vU (DR (vU h.rf (vT rfl)) (.inl rfl)) (vT (SO _))) (.inr (tU _))
structure Y6 (ls : List Lo) (bs : List Bo) (ws : List Wt) (k : Nat) (left : List Bo) (N : List (Nat × List Tk)) (p : Nat) (X : Hp) : Prop where
  kl : k ≤ ws.length
  eq : pD ls bs ws = (pD ls left (ws.drop k)).map (N.map (·.2) ++ ·)
  nl : N.length = k
  len : left.length = bs.length
  nn : ∀ b : Int,0 ≤ b → 0 ≤ cnt left b ∧ cnt left b ≤ 20000
  lot : ∀ b : Int,0 ≤ b → (left.getD b.toNat (0,0,0)).1 = (bs.getD b.toNat (0,0,0)).1
  h0 : X[0]? = some (.arr (eX left) 3)
  hp : X[p]? = some (.arr (kO N) 1)
  hn : qF X N
  nd : (0 :: p :: N.map (·.1)).Nodup
  rf : OI X
def WX (ls : List Lo) (bs : List Bo) (ws : List Wt) (r : AV) (o : Hp) : Prop := ∃ x A,r = .tup [x,.i (lM ls bs ws).1] ∧ kB o x (lM ls bs ws).2 A ∧ r.rf = true ∧ OI o
end Go.Or
namespace Go.Proofs.YtdiogjgohbbllaaGreatDoor
open Go Go.Ab Go.Or
attribute [local irreducible] VC AW bQ bJ eQ
set_option maxHeartbeats 4000000
theorem HM (w : Wt) : bJ Tryz.prog 53 [.agg [.i w.1,.i w.2.1,.i w.2.2]] [] (.b (!sH w)) [] := by
  have b1 : ∀ n l h : Int,bJ Tryz.prog 58 [.i n,.i l,.i h] [] (.b (decide (l ≤ n) && decide (n ≤ h))) [] := fun n l h => by
    refine dB T Tryz.func58 rfl rfl rfl rfl ?_
    (repeat' (first|refine wS ?_|refine wR ?_|(refine rg 0 (aV ?_))|(refine rg 1 (eW rfl (vV (fT rfl rfl) (mV ?_)));refine bS rfl rfl ?_ ?_<;>(intro hb;rw [hb];(try simp only [nm] at hb);try (exfalso;omega));(all_goals first|(refine gT (mW rfl (gT (mW rfl (gT (vV (iP rfl rfl) ?_))))))|(iterate 3 refine gF ?_));(all_goals (refine pW rfl (aV ?_))))|refine nZ ?_));all_goals first | (exfalso;omega) | exact eG (.inl rfl) rfl (wL (by first | rfl | (simp;omega) | (simp [*];done)))
  have c1 := b1 w.2.1 1 20000;have c2 := b1 w.2.2 0 20000;have e : (!sH w) = (decide (0 ≤ w.1) && ((decide (1 ≤ w.2.1) && decide (w.2.1 ≤ 20000)) && (decide (0 ≤ w.2.2) && decide (w.2.2 ≤ 20000)))) := by
    unfold sH;rw [T0];simp only [rK,gG,decide_eq_false_iff_not,aL,decide_eq_true_eq];omega
  rw [e];clear e b1;obtain ⟨a,b,c⟩ := w;dsimp only at *;generalize (decide (1 ≤ b) && decide (b ≤ 20000)) = u at *;generalize (decide (0 ≤ c) && decide (c ≤ 20000)) = v at *;cases u
  all_goals
    refine dB T Tryz.func53 rfl rfl rfl rfl ?_
    (repeat' (first|refine wS ?_|refine wR ?_|(refine rg 0 (dX (gL rfl rfl) rfl (aV ?_)))|(refine rg 1 (jQ T rfl (vV (fT rfl rfl) (mV ?_)));refine bS rfl rfl ?_ ?_<;>(intro hb;rw [hb];(try simp only [nm] at hb);try (exfalso;omega));(all_goals first|(refine gT (fW T rfl (gT (lW T rfl (gT (vV (kC (c1)) ?_))))))|(iterate 3 refine gF ?_));(all_goals (refine pW rfl (mV ?_)));(all_goals first|(refine gT (fW T rfl (gT (lW T rfl (gT (vV (kC (c2)) ?_))))))|(iterate 3 refine gF ?_));(all_goals (refine pW rfl (aV ?_))))|refine nZ ?_));all_goals first | (exfalso;omega) | exact eG (.inl rfl) rfl (wL (by first | rfl | (simp [*];done) | (simp;omega)))
theorem UO (w : Wt) : bJ Tryz.prog 52 [.agg [.i w.1,.i w.2.1,.i w.2.2]] [] (.b (sH w)) [] := by
  have c1 := HM w;obtain ⟨a,b,c⟩ := w;dsimp only at *;generalize sH (a,b,c) = q at *;refine dB T Tryz.func52 rfl rfl rfl rfl ?_
  (repeat' (first|refine wS ?_|refine wR ?_|(refine rg 0 (dX (gL rfl rfl) rfl (aV ?_)))|(refine rg 1 (lW T rfl (vV (kC (c1)) (vV (eJ rfl) (aV ?_)))))|refine nZ ?_));all_goals first | (exfalso;omega) | exact eG (.inl rfl) rfl (wL (by cases q <;> rfl))
end Go.Proofs.YtdiogjgohbbllaaGreatDoor
namespace Go.Proofs.YtdiogjgohbbllaaGreatDoor
open Go Go.Ab Go.Shelf Go.Proofs
shelf_lay LaysM.n246 Nm 246 at Tryz as laysFmt
theorem ML (n : Int) (h0 : -9223372036854775808 ≤ n) (h1 : n ≤ 9223372036854775807) : bJ Tryz.prog 134 [.i n,.i 10] [] (.s (Go.Lib.itoa n)) [] :=
  X7 (name := "internal/strconv.uint64pow10") (gi := 0) (tab := Go.Lib.pow10Tab) ⟨_, Tryz.func134, by kernel_rfl, by kernel_rfl⟩ (fun n w h2 h3 h4 => Any.internal_strconv_FormatInt_10 laysFmt n h2 h3 w h4) (by kernel_rfl) (by unfold qA Go.Lib.pow10Tab; simp [mK, Function.comp_def]) n h0 h1
theorem RN : (Tryz.prog.info? 123).map (·.size) = some 2 := by kernel_rfl
theorem VZ : liesAt Tryz.prog Tryz.prog.depth 123 (2 / Tryz.prog.cellsOf 123) 0 123 1 = true := by kernel_rfl
theorem VN : Tryz.prog.underlying 163 = some .unsafePointer := by kernel_rfl
theorem OQ : Tryz.prog.underlying 120 = some (.pointer 123) := by kernel_rfl
set_option maxHeartbeats 1000000 in
set_option maxRecDepth 100000 in
theorem MV (b : Nat) (w : World) (h0 : w.cell? ⟨b,0,none⟩ = some (.pointer none)) (hsh : w.shape? b = some (123,2)) (hfz : w.frozen? ⟨b,0,none⟩ = false) :
    Calls Tryz.prog 109 #[.pointer (some ⟨b,0,none⟩)] w fun e w' => e = .returned (.tuple #[]) ∧ w' = w.setCell ⟨b,0,none⟩ (.pointer (some ⟨b,0,none⟩)) := by
  obtain ⟨j,hj,hjs⟩ := bY.1 RN
  go_enter Tryz.func109,Tryz.ntmps109
  go_wp2
  rw [Go.Lib.run_to_unsafe w ⟨b,0,none⟩ OQ VN hj (by rw [hjs];decide) hsh (Nat.zero_lt_succ 1)]
  simp only [Result.andThen];rw [Oper.upon_value]
  go_wp2
  rw [run_callFunc_extern Tryz.func123 (by kernel_rfl) (by kernel_rfl) (by kernel_rfl) (e := Extern.AbiNoEscape.same) (by kernel_rfl)]
  rw [Go.Lib.run_noEscape];simp only [Result.andThen];rw [Oper.upon_value]
  go_wp2
  rw [Go.Lib.run_from_unsafe w ⟨b,0,none⟩ VN OQ hj hsh VZ];simp only [Result.andThen];rw [Oper.upon_value]
  go_wp2
  go_end0
  exact ⟨rfl,rfl⟩
theorem IP (x : AV) : bJ Tryz.prog 109 [.ptr 0 0] [.var 123 [.v (.pointer none),x]] (.tup []) [.cells [.ptr 0 0,x]] :=
  L7 ⟨_,Tryz.func109,by kernel_rfl,by kernel_rfl⟩ (fun b w h1 h2 h3 => MV b w h1 h2 h3)
end Go.Proofs.YtdiogjgohbbllaaGreatDoor
namespace Go.Proofs.YtdiogjgohbbllaaGreatDoor
open Go Go.Ab
attribute [local irreducible] VC AW bQ bJ
set_option maxHeartbeats 4000000
theorem jJ : NS Tryz.prog 9 := by unfold NS;kernel_rfl
theorem VQ : Tryz.prog.underlying 9 = some .string := by kernel_rfl
theorem WN : Tryz.prog.underlying 151 = some (.pointer 5) := by kernel_rfl
theorem WO : Tryz.prog.cellsOf 5 = 1 := by kernel_rfl
theorem XS : ∀ i : Nat,i < 2 → ([0,1,2] : List Nat)[i]? = some i := by decide
theorem YF : ∀ i : Nat,i < 2 → ([0,1] : List Nat)[i]? = some i := by decide
theorem MW (l : List UInt8) : bJ Tryz.prog 109 [.ptr 0 0] [.cells [.ptr 0 0,.sl 1 0 l.length 1],.buf 5 l] (.tup []) [.cells [.ptr 0 0,.sl 1 0 l.length 1],.buf 5 l] := by
  obtain ⟨j,hj,_⟩ := bY.1 RN;refine dB T Tryz.func109 rfl rfl rfl rfl ?_
  (repeat' (first|refine wS ?_|refine wK ?_|refine wU ?_|(refine rg 0 (mW rfl (nV ?_));refine jQ T rfl (vV (by exact I3 OQ rfl rfl rfl) ?_))|(refine rg 2 (mW rfl (nV ?_));refine jQ T rfl (mW rfl (vV (by exact EJ OQ hj rfl rfl) ?_)))|refine nZ ?_));all_goals exact ⟨.inr rfl,[0,1],_,rfl,rfl,rfl,⟨.inr rfl,.inr rfl,trivial⟩,by decide,YF⟩
theorem wV (l s : List UInt8) (hl : l.length + s.length ≤ 100000000000) : bJ Tryz.prog 74 [.ptr 0 0,.s s] [.cells [.ptr 0 0,.sl 1 0 l.length 1],.buf 5 l] (.tup [.i s.length,.v .nilIface]) [.cells [.ptr 0 0,.sl 2 0 (l.length + s.length) 1],.gone,.buf 5 (l ++ s)] := by
  refine dB T Tryz.func74 rfl rfl rfl rfl ?_
  (repeat' (first|refine wS ?_|refine wR ?_|(refine rg 0 (mY ?_))|(refine rg 1 (mW rfl (cQ [0,1] rfl rfl (MW l) rfl rfl (by decide) ⟨.inr rfl,.inr rfl,trivial⟩ (by simp) rfl ?_)))|(refine rg 2 (eW rfl (nV ?_));refine jQ T rfl (mW rfl (E9 T (e := 5) VQ rfl rfl rfl rfl rfl rfl rfl rfl (by omega) rfl ?_));refine nV ?_;refine fW T rfl (bH T rfl rfl rfl rfl rfl rfl (by decide) rfl ?_))|(refine rg 3 (mW rfl (vV (mT jJ rfl) (mY ?_))))|refine nZ ?_));all_goals exact ⟨.inl rfl,[0,1,2],_,rfl,rfl,rfl,⟨.inr rfl,.inl rfl,.inr rfl,trivial⟩,by decide,XS⟩
theorem VX : ∀ i : Nat,i < 1 → ([0,2] : List Nat)[i]? = some i := by decide
theorem JK (s : List UInt8) (hl : s.length ≤ 100000000000) : bJ Tryz.prog 74 [.ptr 0 0,.s s] [.var 123 [.v (.pointer none),.nils]] (.tup [.i s.length,.v .nilIface]) [.cells [.ptr 0 0,.sl 1 0 s.length 1],.buf 5 s] := by
  refine dB T Tryz.func74 rfl rfl rfl rfl ?_
  (repeat' (first|refine wS ?_|(refine rg 0 (mY ?_))|(refine rg 1 (mW rfl (cQ [0] rfl rfl (IP .nils) rfl rfl (by decide) ⟨.inr rfl,trivial⟩ (by simp) rfl ?_)))|refine nZ ?_));refine oS [(0,.ptr 0 0),(1,.s s)] [.cells [.ptr 0 0,.nils]] ⟨[0],rfl,(by repeat first|exact trivial|refine ⟨rfl,?_⟩),(by (repeat (first | exact trivial | refine ⟨Or.inl rfl,?_⟩ | refine ⟨Or.inr rfl,?_⟩))),by decide,zN⟩ ?_
  refine RA 0 1 5 rfl rfl ?_;dsimp only [YY,YX,List.append_nil,YW,YV,YU,YT,YS,YR,gN,eU,lA,oD,HD,yX,M6,M4,M3,M5,yW,yZ,yU,yY,Nat.zero_add,YQ,Nat.reduceAdd,YP,YO]
  repeat' (first|refine wS ?_|refine wR ?_|(refine rg 2 (eW rfl (nV ?_));refine jQ T rfl (mW rfl (E9 T (e := 5) (lb := []) VQ rfl rfl rfl rfl rfl rfl rfl rfl (by simp;omega) rfl ?_));refine nV ?_;refine fW T rfl (bH T rfl rfl rfl rfl rfl rfl (by decide) rfl ?_))|(refine rg 3 (mW rfl (vV (mT jJ rfl) (mY ?_))))|refine nZ ?_)
  simp only [List.length_nil,Nat.zero_add,List.nil_append]
  all_goals exact ⟨.inl rfl,[0,2],_,rfl,rfl,rfl,⟨.inr rfl,.inr rfl,trivial⟩,by decide,VX⟩
theorem KA (l : List UInt8) (h0 : l ≠ []) (hl : l.length ≤ 100000000000) : bJ Tryz.prog 77 [.ptr 0 0] [.cells [.ptr 0 0,.sl 1 0 l.length 1],.buf 5 l] (.s l) [.gone,.gone] := by
  have hpos : 0 < l.length := lK.2 h0;refine dB T Tryz.func77 rfl rfl rfl rfl ?_
  (repeat' (first|refine wS ?_|refine wR ?_|(refine rg 0 (aV ?_))|(refine rE (id := 1) 14 [[],[0],[0,1],[0,1,2],rN 4,[],[5],[5,6],[5,6,7],rM 5 4,rN 10] (rM 3 11) [[],[],[],[],[],rM 3 5,rM 3 5,rM 3 5,rM 3 5,rM 3 5,[]] [(10,1)] fL rfl (by decide +kernel) (fA rfl rfl rfl rfl (by exact eV rfl) ?_);refine fA rfl rfl rfl rfl (by exact dR rfl rfl) ?_;refine fA rfl rfl rfl rfl (by exact eD T rfl rfl rfl) ?_;refine fA rfl rfl rfl rfl (by exact bC T rfl rfl rfl rfl) ?_;refine fA rfl rfl rfl rfl (by exact U7 rfl (by omega)) ?_;refine fA rfl rfl rfl rfl (by exact eV rfl) ?_;refine fA rfl rfl rfl rfl (by exact dR rfl rfl) ?_;refine fA rfl rfl rfl rfl (by exact eD T rfl rfl rfl) ?_;refine fA rfl rfl rfl rfl (by exact bC T rfl rfl rfl rfl) ?_;refine fA rfl rfl rfl rfl (by exact R1 T rfl rfl) ?_;refine TZ rfl rfl rfl rfl (bA rfl) (by exact C9 WN WO rfl rfl rfl h0 (by omega) rfl) ?_;refine xZ rfl rfl rfl (by exact rfl) ?_;refine aV ?_)|refine nZ ?_));all_goals exact ⟨.inl rfl,[0,1],_,rfl,rfl,rfl,⟨.inl rfl,.inl rfl,trivial⟩,by decide,YF⟩
end Go.Proofs.YtdiogjgohbbllaaGreatDoor
namespace Go.Proofs.YtdiogjgohbbllaaGreatDoor
open Go Go.Ab
section
variable {P : Program} {env : cJ} {h : Hp} {d : Option Nat} {ty : TypeId} {pos : String} {af : Array Edge} {g : Option (Nat × Bool)}
theorem nQ {t t2 : TypeId} {x y : Operand} {a b : Int} (hx : evu env x = some (.i a)) (hy : evu env y = some (.i b)) (e : a < b) : bQ P ⟨d,.binOp .lss t x y t2,ty,pos,af,g⟩ env h 0 (fun _ => .b true) (fun _ => []) := by
  have := bB (P := P) (d := d) (ty := ty) (pos := pos) (af := af) (g := g) (h := h) (t := t) (t2 := t2) hx hy;simpa [e] using this
theorem nR {t t2 : TypeId} {x y : Operand} {a b : Int} (hx : evu env x = some (.i a)) (hy : evu env y = some (.i b)) (e : b ≤ a) : bQ P ⟨d,.binOp .lss t x y t2,ty,pos,af,g⟩ env h 0 (fun _ => .b false) (fun _ => []) := by
  have := bB (P := P) (d := d) (ty := ty) (pos := pos) (af := af) (g := g) (h := h) (t := t) (t2 := t2) hx hy;simpa [show decide (a < b) = false from decide_eq_false (by omega)] using this
end
attribute [local irreducible] VC AW bQ bJ
set_option maxHeartbeats 4000000
def tH (n : Int) : Prop := -9223372036854775808 ≤ n ∧ n ≤ 9223372036854775807
theorem rZ : ∀ (k u : Nat), u < 10 ^ (k + 1) → Go.Lib.nDigits u ≤ k + 1
  | 0,u,h => by rw [Go.Lib.nDigits_small (by simpa using h)];exact aO _
  | k + 1,u,h => by
    by_cases hu : u < 10
    · rw [Go.Lib.nDigits_small hu];omega
    · rw [Go.Lib.nDigits_big hu];have := rZ k (u / 10) (by rw [Nat.div_lt_iff_lt_mul (by decide)];rw [Nat.pow_succ] at h;exact h)
      omega
theorem BK {n : Int} (h : tH n) : (Go.Lib.itoa n).length ≤ 21 := by
  obtain ⟨h0,h1⟩ := h;unfold Go.Lib.itoa;split
  · rw [List.length_cons,Go.Lib.decDigits_length];have := rZ 19 n.natAbs (by have : (10 : Nat) ^ (19 + 1) = 100000000000000000000 := (by decide);omega)
    omega
  · rw [Go.Lib.decDigits_length];have := rZ 19 n.toNat (by have : (10 : Nat) ^ (19 + 1) = 100000000000000000000 := (by decide);omega)
    omega
def eZ (n : Int) : List UInt8 := Go.Lib.itoa n ++ [59]
theorem kQ {n : Int} (h : tH n) : (eZ n).length ≤ 22 := by have := BK h;simp [eZ];omega
theorem QF {n : Int} (h : tH n) : bJ Tryz.prog 124 [.i n] [] (.s (Go.Lib.itoa n)) [] := by
  have hc := ML n h.1 h.2;refine dB T Tryz.func124 rfl rfl rfl rfl ?_
  (repeat' (first|refine wS ?_|refine wR ?_|(refine rg 0 (aV ?_))|(refine rg 1 (mW rfl (vV (kC (hc)) (aV ?_))))|refine nZ ?_));all_goals exact rQ
theorem EG {n : Int} (h : tH n) : bJ Tryz.prog 110 [.i n] [] (.s (Go.Lib.itoa n)) [] := by
  have hc := QF h;refine dB T Tryz.func110 rfl rfl rfl rfl ?_
  (repeat' (first|refine wS ?_|refine wR ?_|(refine rg 0 (aV ?_))|(refine rg 1 (mW rfl (vV (kC (hc)) (aV ?_))))|refine nZ ?_));all_goals exact rQ
theorem tJ {n : Int} (h : tH n) : bJ Tryz.prog 76 [.i n] [] (.s (eZ n)) [] := by
  have hc := EG h;have hl := BK h;refine dB T Tryz.func76 rfl rfl rfl rfl ?_
  (repeat' (first|refine wS ?_|refine wR ?_|(refine rg 0 (aV ?_))|(refine rg 1 (mW rfl (vV (kC (hc)) (vV (xU rfl rfl (by simp only [aC,List.length_cons,List.length_nil];omega)) ?_)));refine aV ?_)|refine nZ ?_));all_goals exact rQ
end Go.Proofs.YtdiogjgohbbllaaGreatDoor
namespace Go.Or
open Go Go.Ab
theorem OJ.start {ls : List Lo} {bs : List Bo} {ws : List Wt} {k : Nat} {left : List Bo} {N : List (Nat × List Tk)} {p : Nat} {X : Hp} {ord : List Int} {w : Wt} (h : Y6 ls bs ws k left N p X) (hw : 0 ≤ w.2.1 ∧ w.2.1 ≤ 20000) :
    OJ left ord w.2.1 N p (X ++ [.gone] ++ [.arr [] 2]) 0 left [] w.2.1 (X ++ [AB.gone]).length := by
  have hnd := h.nd;simp only [aN,aQ,not_or] at hnd;obtain ⟨⟨a1,a3⟩,a4,a5⟩ := hnd;have hpl := (aA.1 h.hp).1;have h0l := (aA.1 h.h0).1;have hnl : ∀ e,e ∈ N → e.1 < X.length := fun e he => by
    have h1 := h.hn e he;exact (aA.1 h1).1
  have hz : (X ++ [AB.gone]).length = X.length + 1 := by simp
  refine ⟨bP _,by simp,rfl,h.nn,fun b hb => rfl,hw,aO _,bW (bW h.h0),bW (bW h.hp),h.hn.more fun e he b hb => bW (bW hb),cP,?_,vU (vU h.rf (fun b hb => .inl (bL.1 hb))) (vT rfl)⟩
  rw [hz];simp only [aN,aQ,not_or];refine ⟨⟨a1,by omega,a3⟩,⟨by omega,a4⟩,fun hm => ?_,a5⟩
  obtain ⟨e,he,e1⟩ := aJ.1 hm;have := hnl e he;omega
theorem OJ.fin {left0 : List Bo} {ord : List Int} {need0 : Int} {N : List (Nat × List Tk)} {p : Nat} {X : Hp} {j : Nat} {left : List Bo} {tk : List Tk} {need : Int} {q : Nat} (h : OJ left0 ord need0 N p X j left tk need q)
    (hf : ∀ hj : j < ord.length,min need (cnt left ord[j]) = 0) : kE ord left0 need0 = (tk,left,need) := by
  have heq := h.eq;rcases fY j ord.length with hj | hj
  · rw [aS hj,kE,if_pos (hf hj)] at heq;simpa using heq
  · rw [cW hj] at heq;simpa [kE] using heq
theorem Y6.next {ls : List Lo} {bs : List Bo} {ws : List Wt} {k : Nat} {left0 : List Bo} {N : List (Nat × List Tk)} {p : Nat} {X0 : Hp} (h : Y6 ls bs ws k left0 N p X0) (hk : k < ws.length)
    {X : Hp} {j : Nat} {left : List Bo} {tk : List Tk} {need : Int} {q : Nat} (g : OJ left0 (rY ls left0 ws[k]) ws[k].2.1 N p X j left tk need q) (hf : kE (rY ls left0 ws[k]) left0 ws[k].2.1 = (tk,left,need)) (hn : ¬ 0 < need) :
    Y6 ls bs ws (k + 1) left (N ++ [(q,tk)]) (X ++ [AB.arr [[AV.sl q 0 tk.length 2]] 1]).length ((X ++ [AB.arr [[AV.sl q 0 tk.length 2]] 1]).set p AB.gone ++ [AB.arr (kO (N ++ [(q,tk)])) 1]) := by
  have hnd := g.nd;simp only [aN,aQ,not_or] at hnd;obtain ⟨⟨a1,a2,a3⟩,⟨a4,a5⟩,a6,a7⟩ := hnd;have hql := (aA.1 g.hq).1;have h0l := (aA.1 g.h0).1;have hnl : ∀ e,e ∈ N → e.1 < X.length := fun e he => by
    have h1 := g.hn e he;exact (aA.1 h1).1
  have hmem : ∀ e,e ∈ N → e.1 ∈ N.map (·.1) := fun e he => aJ.2 ⟨e,he,rfl⟩
  have hz : (X ++ [AB.arr [[AV.sl q 0 tk.length 2]] 1]).length = X.length + 1 := by simp
  have keep : ∀ {i : Nat} {b : AB},X[i]? = some b → i ≠ p → ((X ++ [AB.arr [[AV.sl q 0 tk.length 2]] 1]).set p AB.gone ++ [AB.arr (kO (N ++ [(q,tk)])) 1])[i]? = some b := fun hi h1 => bW (fZ h1 (bW hi));have heq := h.eq;rw [aS hk,pD,hf] at heq;dsimp only at heq;rw [if_neg hn] at heq;refine ⟨hk,?_,by rw [aC,h.nl];rfl,by rw [g.len,h.len],g.nn,fun b hb => by rw [g.lot b hb,h.lot b hb],keep g.h0 a1,?_,?_,?_,?_⟩
  · rw [heq];cases pD ls left (ws.drop (k + 1)) with
    | none => rfl
    | some t => simp
  · rw [hz];have e1 : ((X ++ [AB.arr [[AV.sl q 0 tk.length 2]] 1]).set p AB.gone).length = X.length + 1 := by simp
    rw [← e1];exact cP
  · intro e he;rcases bD.1 he with he | he
    · exact keep (g.hn e he) (fun e1 => a5 (e1 ▸ hmem e he))
    · rw [bL.1 he];exact keep g.hq (fun e => a4 e.symm)
  · rw [hz,cO];simp only [aN,aQ,not_or,bD,dY,List.map_cons,List.map_nil,cG,or_false];refine ⟨⟨by omega,a3,a2⟩,⟨fun hm => ?_,by omega⟩,a7,⟨by simp,aU⟩,fun a ha b hb => ?_⟩
    · obtain ⟨e,he,e1⟩ := aJ.1 hm;have := hnl e he;omega
    · subst hb;exact fun e => a6 (e ▸ ha)
  · exact vU (DR (vU g.rf (vT rfl)) (.inl rfl)) (vT (SR _))
theorem FP (N : List (Nat × List Tk)) (q : Nat) (tk : List Tk) : List.take N.length (List.drop 0 (kO N)) ++ [[AV.sl q 0 tk.length 2]] = kO (N ++ [(q,tk)]) := by
  rw [cY,aY (by simp)];simp
theorem FG {ws : List Wt} {k : Nat} (h : k < ws.length) : (bZ ws)[(k : Int).toNat]? = some [AV.i ws[k].1,AV.i ws[k].2.1,AV.i ws[k].2.2] := JI h
theorem zD {X : Hp} {a b c : AB} : ((X ++ [a]).set X.length b).set X.length c = X ++ [c] := by simp
theorem VR (l : List Int) : (AB.arr (gO l) 1).rf = true := aT.2 fun e he => by obtain ⟨i,_,rfl⟩ := aJ.1 he;rfl
theorem RY : ∀ l : List Int, AV.idfL (gO l).flatten = true
  | [] => rfl
  | x :: l => RY l
theorem E2 {bs : List Bo} {j : Int} (h0 : 0 ≤ j) (h : j < bs.length) : (eX bs)[0 + j.toNat]? = some [AV.i (bs.getD j.toNat (0,0,0)).1,AV.i (cnt bs j),AV.i (bs.getD j.toNat (0,0,0)).2.2] := by
  rw [Nat.zero_add];exact V9 h0 h
theorem GJ {bs : List Bo} {j n : Int} : (eX bs).set (0 + j.toNat) [AV.i (bs.getD j.toNat (0,0,0)).1,AV.i (cnt bs j - n),AV.i (bs.getD j.toNat (0,0,0)).2.2] = eX (oR bs j n) := by
  rw [Nat.zero_add];exact NA (x := ((bs.getD j.toNat (0,0,0)).1,cnt bs j - n,(bs.getD j.toNat (0,0,0)).2.2))
theorem Y6.fail {ls : List Lo} {bs : List Bo} {ws : List Wt} {k : Nat} {left0 : List Bo} {N : List (Nat × List Tk)} {p : Nat} {X0 : Hp} (h : Y6 ls bs ws k left0 N p X0) (hk : k < ws.length)
    {left : List Bo} {tk : List Tk} {need : Int} (hf : kE (rY ls left0 ws[k]) left0 ws[k].2.1 = (tk,left,need)) (hn : 0 < need) : pD ls bs ws = none := by
  have heq := h.eq;rw [aS hk,pD,hf] at heq;dsimp only at heq;rw [if_pos hn] at heq;exact heq
theorem QW {ws : List Wt} (h : ws.any sH = false) {w : Wt} (hw : w ∈ ws) : 0 ≤ w.2.1 ∧ w.2.1 ≤ 20000 := by
  have := nC.1 h w hw;unfold sH at this;simp only [mX,decide_eq_true_eq,not_or] at this;omega
end Go.Or
namespace Go.Proofs.YtdiogjgohbbllaaGreatDoor
open Go Go.Ab Go.Or
attribute [local irreducible] VC AW bQ bJ eQ
set_option maxHeartbeats 4000000
section
variable {P : Program} {env : cJ} {h : Hp} {d : Option Nat} {ty : TypeId} {pos : String} {af : Array Edge} {g : Option (Nat × Bool)}
theorem jE {t t2 : TypeId} {x y : Operand} {a b : Int} (hx : evu env x = some (.i a)) (hy : evu env y = some (.i b)) (hab : b < a) : bQ P ⟨d,.binOp .gtr t x y t2,ty,pos,af,g⟩ env h 0 (fun _ => .b true) (fun _ => []) := by
  have := gJ (P := P) (env := env) (h := h) (d := d) (ty := ty) (pos := pos) (af := af) (g := g) (t := t) (t2 := t2) hx hy
  rwa [decide_eq_true hab] at this
theorem jF {t t2 : TypeId} {x y : Operand} {a b : Int} (hx : evu env x = some (.i a)) (hy : evu env y = some (.i b)) (hab : a ≤ b) : bQ P ⟨d,.binOp .gtr t x y t2,ty,pos,af,g⟩ env h 0 (fun _ => .b false) (fun _ => []) := by
  have := gJ (P := P) (env := env) (h := h) (d := d) (ty := ty) (pos := pos) (af := af) (g := g) (t := t) (t2 := t2) hx hy
  rwa [decide_eq_false (JC.2 hab)] at this
end
theorem KS (ls : List Lo) (bs : List Bo) (ws : List Wt) (hl : ls.length ≤ 1000000) (hb : bs.length ≤ 20) (hk : K5 ls bs) (hw : ws.length ≤ 1000) (hc : ∀ b : Int,0 ≤ b → 0 ≤ cnt bs b ∧ cnt bs b ≤ 20000) :
    eQ Tryz.prog 20 [.rowE (lO ls) 3,.rowE (eX bs) 3,.rowE (bZ ws) 3] [] (WX ls bs ws) := by
  have hbb := eP bs;have hww := gR ws;have hh := GD (l := ws) (F := 52) (caps := []) (p := sH) (by omega) rfl fun x _ => UO x
  refine jM T Tryz.func20 rfl rfl rfl rfl ?_;cases hbad : ws.any sH with
  | true =>
    rw [hbad] at hh
    (repeat' (first|refine wS ?_|refine wR ?_|refine wT ?_|(refine rg 0 (mY ?_))|(refine rg 1 (mW rfl (vV (kC (hh)) ?_)))|(refine rg 2 (mY ?_))|refine nZ ?_));all_goals exact ⟨.inl rfl,_,rfl,.nils,[],by unfold lM;rw [if_pos hbad];rfl,.inl ⟨rfl,by unfold lM;rw [if_pos hbad],rfl⟩,rfl,fun b hb => by cases hb⟩
  | false =>
    rw [hbad] at hh;have hpf : lM ls bs ws = match pD ls bs ws with
      | none => (22,[])
      | some t => (0,t) := by unfold lM;rw [if_neg (by rw [hbad];simp)];rfl
    (repeat' (first|refine wS ?_|refine wK ?_|refine wU ?_|(refine rg 0 (mY ?_))|(refine rg 1 (mW rfl (vV (kC (hh)) ?_)))|(refine rg 3 (mW rfl (qW T rfl (dX (by exact V0 T rfl rfl rfl rfl (by omega) (by omega) (by dsimp only;omega) (by omega) (by decide)) rfl ?_)));refine aV ?_)|refine nZ ?_));rw [bK]
    (repeat' (first|refine wS ?_|(refine rg 4 (eW rfl (ON T rfl rfl rfl rfl rfl rfl rfl (.row (oC bs)) (NB bs) (by simp) rfl rfl ?_)))|(refine rg 5 (aV ?_))|refine nZ ?_));refine J3 9 1 rfl (by decide) ?_
    (repeat' (first|refine wB ?_|(refine rg 6 (mW rfl (qW T rfl (mV ?_))))|refine nZ ?_));refine kR (X := {x : Nat × List Bo × List (Nat × List Tk) × Nat × Hp // Y6 ls bs ws x.1 x.2.1 x.2.2.1 x.2.2.2.1 x.2.2.2.2}) (fun x => [(0, .rowE (lO ls) 3), (8, .sl 0 0 (eX bs).length 3), (9, .sl x.1.2.2.2.1 0 x.1.1 1), (25, .rowE (bZ ws) 3), (26, .i (bZ ws).length), (27, .i (x.1.1 : Int))]) (fun x => x.1.2.2.2.2) (fun x => ws.length - x.1.1)
      ⟨(0,bs,[],1,[.arr (eX bs) 3,.arr [] 1]),⟨bP _,by simp,rfl,rfl,hc,fun b hb => rfl,rfl,rfl,fun e he => (by cases he),(by simp),vU (vT (tU bs)) (vT rfl)⟩⟩ (nI.of rfl (by repeat first|exact trivial|refine ⟨rfl,?_⟩)) ?_
    rintro ⟨⟨k,left,N,p,X⟩,ho⟩;dsimp only at ho ⊢;have hnl := ho.nl;subst hnl;by_cases hlt : N.length < ws.length
    · have hg := FG hlt;have hwb := QW hbad (aK hlt);have hin := OJ.start (ord := rY ls left ws[N.length]) (w := ws[N.length]) ho hwb;have hlk : K5 ls left := fun i hi => by
        have h1 := ho.lot i (by omega)
        rw [bK] at h1;rw [h1];exact hk i (by rw [← ho.len];exact hi)
      have hor := PM ls left ws[N.length] hl (by rw [ho.len];exact hb) hlk
      have hom : ∀ i,i ∈ rY ls left ws[N.length] → 0 ≤ i ∧ i < left.length := fun i hi => (xI.1 hi).1;have hol := KY (ls := ls) (bs := left) (w := ws[N.length]);have hleft := ho.len;have nx := @Y6.next ls bs ws N.length left N p X ho hlt
      have fl := @Y6.fail ls bs ws N.length left N p X ho hlt;generalize ws[N.length] = w at *;generalize rY ls left w = ord at *
      (repeat' (first|refine wS ?_|refine wB ?_|refine wK ?_|refine wT ?_|(refine rg 7 (vV (nQ rfl rfl (by omega)) ?_))|(refine rg 8 (vV (ix T rfl (by omega) (tI ws) hg) (lW T rfl (dX (dH T rfl) rfl (bH T rfl rfl rfl rfl rfl rfl (by decide) (oH cP rfl rfl) ?_)))))|refine nZ ?_));refine gV 11 (cs := [.i w.1,.i w.2.1,.i w.2.2]) rfl (gI (by simp)) rfl ?_
      rw [zD]
      (repeat' (first|refine wS ?_|(refine rg 9 (aV ?_))|refine nZ ?_));refine J3 12 2 rfl (by decide) ?_
      have h00 := hin.h0
      (repeat' (first|refine wS ?_|refine wB ?_|(refine rg 10 (jQ T rfl (aV ?_)))|(refine rg 11 (eW rfl (lW T rfl (vV (by exact jV rfl rfl hor (.cons (.row _ _ _) (.cons (rR h00 (by simp;omega) (V8 _)) (.cons (E7 _ rfl) .nil))) (uU _).symm (VR _) (RY _)) ?_)));refine qW T rfl (mV ?_))|refine nZ ?_));refine kR (X := {x : Nat × List Bo × List Tk × Int × Nat × Hp // OJ left ord w.2.1 N p x.2.2.2.2.2 x.1 x.2.1 x.2.2.1 x.2.2.2.1 x.2.2.2.2.1}) (fun x => [(0, .rowE (lO ls) 3), (8, .sl 0 0 (eX bs).length 3), (9, .sl p 0 N.length 1), (12, .sl x.1.2.2.2.2.1 0 x.1.2.2.1.length 2), (13, .i x.1.2.2.2.1), (25, .rowE (bZ ws) 3), (26, .i (bZ ws).length), (27, .i (N.length : Int)), (36, .rowE (gO ord) 1), (37, .i (gO ord).length), (38, .i (x.1.1 : Int))]) (fun x => x.1.2.2.2.2.2) (fun x => ord.length - x.1.1)
        ⟨(0,left,[],w.2.1,_,_),hin⟩ (nI.of rfl (by repeat first|exact trivial|refine ⟨rfl,?_⟩)) ?_
      clear hin hor h00 hg;rintro ⟨⟨j,left',tk,need,q,Y⟩,g⟩;dsimp only at g ⊢;have hnu := uU ord;have hll := g.len;have hn0 := g.n0;have htl := g.tl;by_cases hcon : ∃ hj : j < ord.length,min need (cnt left' ord[j]) ≠ 0
      · obtain ⟨hj,hm⟩ := hcon;have gn := g.next hj hom hm
        obtain ⟨i0,i1⟩ := hom _ (aK hj);have hgo := EA hj;have hbo := E2 (bs := left') i0 (by omega)
        have hcc := g.nn _ i0;have g0 := g.h0;have gq := g.hq;have hds := GJ (bs := left') (j := ord[j]) (n := min need (cnt left' ord[j]));have hnd := g.nd;simp only [aN,aQ,not_or] at hnd;have n0q : 0 ≠ q := fun e => hnd.1.2.1 e
        have hta := JV tk (ord[j],min need (cnt left' ord[j]));dsimp only at hta;generalize ord[j] = i at *;generalize (left'.getD i.toNat (0,0,0)).1 = x1 at *;generalize (left'.getD i.toNat (0,0,0)).2.2 = x3 at *;generalize oR left' i (min need (cnt left' i)) = left2 at *;generalize cnt left' i = c at *
        (repeat' (first|refine wS ?_|refine wB ?_|refine wK ?_|refine wT ?_|(refine wC rfl ?_ ?_<;>(intro hb;(try simp only [nm] at hb);try (exfalso;omega)))|(refine rg 12 (vV (nQ rfl rfl (by omega)) ?_))|(refine rg 13 (vV (ix T rfl (by omega) (DZ ord) hgo) (vV (bC T rfl rfl rfl rfl) (aV ?_))))|(refine rg 14 (eW rfl (mW rfl (vV (by exact cI T rfl rfl rfl rfl rfl (by omega) (by omega)) ?_)));refine fW T rfl (vV (by exact bC T rfl rfl (eF g0 hbo) rfl) ?_);refine vV (sD rfl rfl) (aV ?_))|(refine rg 15 (mW rfl (vV (cT rfl rfl) ?_)))|(refine rg 16 (eW rfl (mW rfl (vV (by exact iH T rfl rfl rfl rfl) ?_)));refine dX (by exact cK T rfl rfl (by decide) (by decide) rfl rfl rfl) rfl ?_;refine iK T rfl rfl rfl rfl rfl (bW gq) (by simp) (kV.whole cP rfl) rfl (by simp;omega) (by simp;omega) rfl ?_;refine aV ?_)|(refine rg 17 (eW rfl (vV (by exact cI T rfl rfl rfl rfl rfl (by omega) (by omega)) ?_));refine fW T rfl (vV (by exact bC T rfl rfl (eF (bW (fZ n0q (bW g0))) hbo) rfl) ?_);refine mW rfl (vV (gH rfl rfl (by omega) (by omega)) (vV (by exact cI T rfl rfl rfl rfl rfl (by omega) (by omega)) ?_));refine fW T rfl (bH T rfl rfl rfl rfl rfl rfl (by decide) (oZ (bW (fZ n0q (bW g0))) hbo rfl rfl) ?_))|(refine rg 18 (eW rfl (vV (gH rfl rfl (by omega) (by omega)) (aV ?_))))|(refine rg 19 (vV (eE rfl rfl (by omega) (by omega)) (mV ?_)))|refine nZ ?_));all_goals try (exfalso;omega)
        all_goals exact ⟨⟨(j + 1,left2,tk ++ [(i,min need c)],need - min need c,_,_),gn⟩,by dsimp only;omega,nI.of (by dsimp only;rw [← hta,← hds];rfl) ⟨rfl,rfl,rfl,by dsimp only;rw [show (tk ++ [(i,min need c)]).length = tk.length + 1 by simp];rfl,rfl,rfl,rfl,rfl,rfl,rfl,rfl,trivial⟩⟩
      · have hf := g.fin fun hj => Classical.byContradiction fun e => hcon ⟨hj,e⟩
        have nx2 := nx (need := need) g hf;have fl2 := fl (need := need) hf;have oa := FP N q tk;have gp := g.hp;have hpf2 := hpf;clear nx fl;by_cases hj : j < ord.length
        · have hm : min need (cnt left' ord[j]) = 0 := Classical.byContradiction fun e => hcon ⟨hj,e⟩
          obtain ⟨i0,i1⟩ := hom _ (aK hj);have hgo := EA hj;have hbo := E2 (bs := left') i0 (by omega)
          have g0 := g.h0;generalize ord[j] = i at *;generalize (left'.getD i.toNat (0,0,0)).1 = x1 at *;generalize (left'.getD i.toNat (0,0,0)).2.2 = x3 at *;generalize cnt left' i = c at *
          (repeat' (first|refine wS ?_|refine wB ?_|refine wK ?_|refine wE ?_|refine wT ?_|(refine wC rfl ?_ ?_<;>(intro hb;(try simp only [nm] at hb);try (exfalso;omega)))|(refine rg 12 (vV (nQ rfl rfl (by omega)) ?_))|(refine rg 13 (vV (ix T rfl (by omega) (DZ ord) hgo) (vV (bC T rfl rfl rfl rfl) (aV ?_))))|(refine rg 14 (eW rfl (mW rfl (vV (by exact cI T rfl rfl rfl rfl rfl (by omega) (by omega)) ?_)));refine fW T rfl (vV (by exact bC T rfl rfl (eF g0 hbo) rfl) ?_);refine vV (sD rfl rfl) (aV ?_))|(refine rg 15 (mW rfl (vV (cT rfl rfl) ?_)))|refine nZ ?_));all_goals try (exfalso;omega)
          all_goals
            by_cases hn : 0 < need
            · rw [fl2 hn] at hpf2
              (repeat' (first|refine wS ?_|refine wR ?_|refine wT ?_|(refine rg 20 (mW rfl (vV (jE rfl rfl (by omega)) ?_)))|(refine rg 21 (mY ?_))|refine nZ ?_));all_goals try (exfalso;omega)
              all_goals exact ⟨.inl rfl,_,rfl,.nils,[],by rw [hpf2];rfl,.inl ⟨rfl,by rw [hpf2],rfl⟩,rfl,g.rf⟩
            · have no := nx2 hn
              (repeat' (first|refine wK ?_|refine wU ?_|(refine rg 20 (mW rfl (vV (jF rfl rfl (by omega)) ?_)))|(refine rg 22 (eW rfl (dX (by exact cK T rfl rfl (by decide) (by decide) rfl rfl rfl) rfl ?_));refine iK T rfl rfl rfl rfl rfl (bW gp) (by simp) (kV.whole cP rfl) rfl (by simp;omega) (by simp;omega) rfl ?_;refine aV ?_)|(refine rg 23 (vV (eE rfl rfl (by omega) (by omega)) (mV ?_)))|refine nZ ?_));all_goals try (exfalso;omega)
              all_goals exact ⟨⟨(N.length + 1,left',N ++ [(q,tk)],_,_),no⟩,by dsimp only;omega,nI.of (by dsimp only;rw [← oa];rfl) (by dsimp only;(repeat (first | exact trivial | refine ⟨rfl,?_⟩)))⟩
        · (repeat' (first|refine wS ?_|refine wE ?_|refine nS rfl ?_|(refine rg 12 (vV (nR rfl rfl (by omega)) ?_))|(refine nZ ?_)));all_goals try (exfalso;omega)
          all_goals
            by_cases hn : 0 < need
            · rw [fl2 hn] at hpf2
              (repeat' (first|refine wS ?_|refine wR ?_|refine wT ?_|(refine rg 20 (mW rfl (vV (jE rfl rfl (by omega)) ?_)))|(refine rg 21 (mY ?_))|refine nZ ?_));all_goals try (exfalso;omega)
              all_goals exact ⟨.inl rfl,_,rfl,.nils,[],by rw [hpf2];rfl,.inl ⟨rfl,by rw [hpf2],rfl⟩,rfl,g.rf⟩
            · have no := nx2 hn
              (repeat' (first|refine wK ?_|refine wU ?_|(refine rg 20 (mW rfl (vV (jF rfl rfl (by omega)) ?_)))|(refine rg 22 (eW rfl (dX (by exact cK T rfl rfl (by decide) (by decide) rfl rfl rfl) rfl ?_));refine iK T rfl rfl rfl rfl rfl (bW gp) (by simp) (kV.whole cP rfl) rfl (by simp;omega) (by simp;omega) rfl ?_;refine aV ?_)|(refine rg 23 (vV (eE rfl rfl (by omega) (by omega)) (mV ?_)))|refine nZ ?_));all_goals try (exfalso;omega)
              all_goals exact ⟨⟨(N.length + 1,left',N ++ [(q,tk)],_,_),no⟩,by dsimp only;omega,nI.of (by dsimp only;rw [← oa];rfl) (by dsimp only;(repeat (first | exact trivial | refine ⟨rfl,?_⟩)))⟩
    · have heq := ho.eq;rw [cW (by omega)] at heq
      have hpn : pD ls bs ws = some (N.map (·.2)) := by rw [heq];simp [pD]
      rw [hpn] at hpf;have hnd := ho.nd
      (repeat' (first|refine wS ?_|refine wR ?_|refine wE ?_|refine wU ?_|(refine rg 7 (vV (nR rfl rfl (by omega)) ?_))|(refine rg 24 (mW rfl (mY ?_)))|refine nZ ?_));all_goals try (exfalso;omega)
      all_goals exact ⟨.inl rfl,_,rfl,.sl p 0 N.length 1,p :: N.map (·.1),by rw [hpf];rfl,.inr ⟨p,N,rfl,ho.hp,ho.hn,by rw [hpf],rfl,(aN.1 hnd).2⟩,rfl,ho.rf⟩
end Go.Proofs.YtdiogjgohbbllaaGreatDoor
namespace Go.Or
open Go Go.Ab
theorem uN (tk : List (List Tk)) : ∀ e,e ∈ F3 tk → e.length = 1 := by intro e he;obtain ⟨n,_,rfl⟩ := aJ.1 he;rfl
theorem nE (tk : List (List Tk)) : (F3 tk).length = tk.length := bI _
theorem D5 {tk : List (List Tk)} {k : Nat} (h : k < tk.length) : (F3 tk)[(k : Int).toNat]? = some [AV.rowE (eI tk[k]) 2] := by simp [h]
theorem yD (bk : Bk) : ∀ e,e ∈ wJ bk → e.length = 4 := by intro e he;obtain ⟨n,_,rfl⟩ := aJ.1 he;rfl
theorem pM (bk : Bk) : (wJ bk).length = bk.length := bI _
theorem W3 {bk : Bk} {k : Nat} (h : k < bk.length) : (wJ bk)[(k : Int).toNat]? = some (HW bk[k]) := by simp [h]
def DH (tk : List (List Tk)) (k : Nat) : List AV := match tk.flatten[k]? with
  | some t => [.agg [.i t.1,.i t.2]]
  | none => []
theorem qN {tk : List (List Tk)} {k : Nat} (h : k < tk.flatten.length) : DH tk k = [.agg [.i tk.flatten[k].1,.i tk.flatten[k].2]] := by
  unfold DH;rw [aB h]
theorem rB {α : Type} {tk : List (List α)} {i : Nat} (hi : i < tk.length) : (tk.take (i + 1)).flatten.length = (tk.take i).flatten.length + tk[i].length := by
  rw [aX hi,fD,aC];simp
theorem QL {α : Type} {tk : List (List α)} {i : Nat} : (tk.take i).flatten.length ≤ tk.flatten.length := by
  conv => rhs;rw [← bU i tk]
  rw [fD,aC];omega
theorem QM {α : Type} {tk : List (List α)} {i j : Nat} (hi : i < tk.length) (hj : j < tk[i].length) : ∃ h : (tk.take i).flatten.length + j < tk.flatten.length,tk.flatten[(tk.take i).flatten.length + j] = tk[i][j] := by
  have e : tk.flatten = (tk.take i).flatten ++ (tk[i] ++ (tk.drop (i + 1)).flatten) := by
    conv => lhs;rw [← bU i tk]
    rw [fD,aS hi,cE]
  have hl : (tk.take i).flatten.length + j < tk.flatten.length := by
    rw [e,aC,aC];omega
  refine ⟨hl,?_⟩;apply Option.some.inj;rw [← aB hl,e,aE (by omega),Nat.add_sub_cancel_left,aG hj,aB hj]
theorem HE {l : List Tk} {b : Int} {k : Nat} (h : k < l.length) : dZ (l.take (k + 1)) b = dZ (l.take k) b + (if l[k].1 = b then l[k].2 else 0) := by
  rw [aX h,iL];simp [dZ]
def SE (l : List Tk) : Prop := ∀ (b : Int) (k : Nat),0 ≤ dZ (l.take k) b ∧ dZ (l.take k) b ≤ 1000000000000
def SF (bk : Bk) : Prop := (∀ o,o ∈ bk → SE o.tk.flatten) ∧ ∀ (b : Int) (k : Nat),0 ≤ mJ (bk.take k) b ∧ mJ (bk.take k) b ≤ 1000000000000
theorem HN {bk : Bk} {b : Int} {k : Nat} (h : k < bk.length) : mJ (bk.take (k + 1)) b = mJ (bk.take k) b + dZ bk[k].tk.flatten b := by
  have e : ∀ (l : Bk) (o : Od),mJ (l ++ [o]) b = mJ l b + dZ o.tk.flatten b := fun l o => by
    unfold mJ iQ;rw [fE,iL];simp
  rw [aX h,e]
end Go.Or
namespace Go.Proofs.YtdiogjgohbbllaaGreatDoor
open Go Go.Ab Go.Or
attribute [local irreducible] VC AW bQ bJ eQ AY VY C5
set_option maxHeartbeats 4000000
theorem YG : ∀ i : Nat,i < 2 → ([0,1] : List Nat)[i]? = some i := by decide
theorem NP (o : Od) (h1 : o.tk.length ≤ 1000000) (h2 : ∀ l,l ∈ o.tk → l.length ≤ 1000000) :
    C5 Tryz.prog 118 [] [.pr [.pr (HW o) 0] 0] [] (DH o.tk) o.tk.flatten.length := by
  have hla := nE o.tk;refine WV T Tryz.func118 rfl rfl rfl rfl ?_;intro J A y hJ hy
  (repeat' (first|(first|(refine J1 ?_)|(refine J2 ?_))|(((refine vK hJ (jI (id := 0) ?_)));(all_goals (refine lV T ?_;refine nV ?_;refine MM T ?_;(refine qV T ?_);refine mV ?_)))|refine nZ ?_));refine GN (X := {i : Nat // i ≤ o.tk.length}) (fun i => [(0,.clo (.yield y) [] []),(10,nK o.tk),(11,.i (F3 o.tk).length),(12,.i i.1)]) (fun _ => []) (fun i => ((o.tk.take i.1).flatten.length,false)) (fun i => o.tk.length - i.1) ⟨0,bP _⟩ rfl (rU []) ?_
  rintro ⟨i,hi⟩;dsimp only;by_cases hlt : i < o.tk.length
  · have ga := D5 hlt;have hlm := h2 _ (aK hlt);have hft := rB hlt;have hfa := fun (j : Nat) (hj : j < o.tk[i].length) => QM hlt hj;generalize o.tk[i] = l at *;have hlb := jX l
    (repeat' (first|(first|(refine J1 ?_)|(refine J2 ?_)|(refine GM ?_))|((refine E4 rfl (fun hb=>?_) (fun hb=>?_)<;>(((try simp only [nm] at hb);try ((exfalso;omega);done)))))|(((refine vK hJ (jI (id := 1) ?_)));(all_goals (refine vV (bB rfl rfl) ?_)))|(((refine vK hJ (jI (id := 2) ?_)));(all_goals (refine vV (ix T rfl (by omega) (uN _) ga) ?_;refine lV T ?_;refine aV ?_)))|(((refine vK hJ (jI (id := 3) ?_)));(all_goals (refine mV ?_;(refine qV T ?_);refine mV ?_)))|refine nZ ?_));all_goals try (exfalso;omega)
    refine GN (X := {j : Nat // j ≤ l.length}) (fun j => [(0,.clo (.yield y) [] []),(10,nK o.tk),(11,.i (F3 o.tk).length),(12,.i i),(16,.rowE (eI l) 2),(17,.i (eI l).length),(18,.i j.1)]) (fun _ => []) (fun j => ((o.tk.take i).flatten.length + j.1,false)) (fun j => l.length - j.1) ⟨0,bP _⟩ rfl (rU []) ?_;rintro ⟨j,hj⟩;dsimp only;by_cases hjl : j < l.length
    · have gb := F0 hjl;obtain ⟨hk,he⟩ := hfa j hjl;have hit := qN hk;rw [he] at hit;generalize l[j] = z at *
      (repeat' (first|(first|(refine J1 ?_)|(refine J2 ?_)|(refine GM ?_)|(refine UQ ?_))|((refine E4 rfl (fun hb=>?_) (fun hb=>?_)<;>(((try simp only [nm] at hb);try ((exfalso;omega);done)))))|(((refine vK hJ (jI (id := 4) ?_)));(all_goals (refine vV (bB rfl rfl) ?_)))|(((refine vK hJ (jI (id := 5) ?_)));(all_goals (refine vV (ix T rfl (by omega) (rT _) gb) ?_;refine lV T ?_;refine dX (dH T rfl) rfl ?_;refine bH T rfl rfl rfl rfl rfl rfl (by decide) rfl ?_)))|(((refine IR (id := 6) ?_));((refine SL 2 hJ ?_));(dsimp only [List.take,List.drop]);(all_goals (refine mV ?_;refine lV T ?_;refine qG ?_;refine JL hJ hy rfl rfl rfl hk hit rfl ?_));(all_goals (intro yes));(all_goals (refine VI hJ ?_;refine vV (eJ rfl) ?_;refine D4 (by ((dsimp only [List.nil_append,List.cons_append,List.append_nil,List.length_cons,List.length_nil,List.set_cons_zero,List.set_cons_succ,List.map_cons,List.map_nil,gN,eU,lA,oD,HD,yX,M6,M4,M3,M5,yW,yZ,yU,yY,Nat.zero_add,Nat.add_zero,Nat.reduceAdd,Bool.not_true,Bool.not_false];done))) ?_)))|(((refine vK hJ (jI (id := 7) ?_)));(all_goals (refine vV (eE rfl rfl (by omega) (by omega)) ?_;refine mV ?_)))|refine nZ ?_));all_goals first | (exfalso;omega) | skip
      · exact ⟨.inl rfl,fun h => (by first | (subst hb;cases h) | (cases h;done)),[],rfl⟩
      · obtain rfl := hb;exact ⟨⟨j + 1,hjl⟩,by dsimp only;omega,rfl,rU []⟩
    · (repeat' (first|(first|(refine J1 ?_)|(refine GP ?_))|((refine E4 rfl (fun hb => ?_) (fun hb => ?_) <;> (((try simp only [nm] at hb);try ((exfalso;omega);done)))))|(((refine vK hJ (jI (id := 4) ?_)));(all_goals (refine vV (bB rfl rfl) ?_)))|(((refine vK hJ (jI (id := 8) ?_)));(all_goals (refine vV (eE rfl rfl (by omega) (by omega)) ?_;refine mV ?_)))|(refine D4 (by ((dsimp only [List.nil_append,List.cons_append,List.append_nil,List.length_cons,List.length_nil,List.set_cons_zero,List.set_cons_succ,List.map_cons,List.map_nil,gN,eU,lA,oD,HD,yX,M6,M4,M3,M5,yW,yZ,yU,yY,Nat.zero_add,Nat.add_zero,Nat.reduceAdd,Bool.not_true,Bool.not_false];done))) ?_)));all_goals try (exfalso;omega)
      obtain rfl : j = l.length := by omega
      all_goals exact ⟨⟨i + 1,hlt⟩,by dsimp only;omega,by dsimp only;rw [hft],rU []⟩
  · (repeat' (first|(first|(refine J1 ?_)|(refine GP ?_))|((refine E4 rfl (fun hb => ?_) (fun hb => ?_) <;> (((try simp only [nm] at hb);try ((exfalso;omega);done)))))|(((refine vK hJ (jI (id := 1) ?_)));(all_goals (refine vV (bB rfl rfl) ?_)))|(refine D4 (by ((dsimp only [List.nil_append,List.cons_append,List.append_nil,List.length_cons,List.length_nil,List.set_cons_zero,List.set_cons_succ,List.map_cons,List.map_nil,gN,eU,lA,oD,HD,yX,M6,M4,M3,M5,yW,yZ,yU,yY,Nat.zero_add,Nat.add_zero,Nat.reduceAdd,Bool.not_true,Bool.not_false];done))) ?_)));all_goals try (exfalso;omega)
    obtain rfl : i = o.tk.length := by omega
    exact ⟨.inr rfl,fun _ => by rw [eA],[],rfl⟩
theorem SD (o : Od) : bJ Tryz.prog 99 [.pr (HW o) 0] [] (.clo (.func 118) [] [.pr [.pr (HW o) 0] 0]) [] := by
  refine FB rfl ?_;refine dB T Tryz.func99 rfl rfl rfl rfl ?_
  (repeat' (first|refine wS ?_|refine wR ?_|(refine rg 0 (dX (gL rfl rfl) rfl (aV ?_)))|(refine rg 1 (vV (by exact uC rfl rfl) ?_);refine aV ?_)|refine nZ ?_));exact ⟨.inl rfl,[0],_,rfl,rfl,rfl,⟨.inr rfl,trivial⟩,by decide,mR _⟩
theorem MK (o : Od) (body : Int) (h1 : o.tk.length ≤ 1000000) (h2 : ∀ l,l ∈ o.tk → l.length ≤ 1000000) (hs : SE o.tk.flatten) :
    bJ Tryz.prog 62 [.pr (HW o) 0,.i body] [] (.i (dZ o.tk.flatten body)) [] := by
  have hal := SD o;have hit := NP o h1 h2;refine dB T Tryz.func62 rfl rfl rfl rfl ?_
  (repeat' (first|refine wS ?_|refine wB ?_|(refine rg 0 (dX (gL rfl rfl) rfl (aV ?_)))|(refine rg 1 (dX (dH T rfl) rfl (bH T rfl rfl rfl rfl rfl rfl (by decide) rfl ?_)))|(refine rg 2 (mW rfl (vV (kC (hal)) ?_)))|refine nZ ?_));refine CJ [] [0,1] [(3,.ptr 0 0),(5,.ptr 1 0)] (fun k => [.cells [.i body],.cells [.i (dZ (o.tk.flatten.take k) body)]]) 2 rfl hit rfl rfl rfl trivial aU rfl (by repeat first|exact trivial|refine ⟨rfl,?_⟩) ⟨.inr rfl,.inr rfl,trivial⟩ (by decide) (mR _) (by simp) (bP _) (bA rfl) rfl (by decide) (fun m hm => by rw [qN hm];exact ⟨rfl,rfl⟩) ?_ ?_
  · intro k hk;rw [qN hk];have hst := HE (b := body) hk;have hb1 := hs body k;have hb2 := hs body (k + 1);generalize o.tk.flatten[k] = t at *;obtain ⟨tb,tn⟩ := t;dsimp only at *;have hn0 : tb = body → dZ (o.tk.flatten.take (k + 1)) body = dZ (o.tk.flatten.take k) body + tn := fun e => by rw [hst,if_pos e]
    have hn1 : tb ≠ body → dZ (o.tk.flatten.take (k + 1)) body = dZ (o.tk.flatten.take k) body := fun e => by rw [hst,if_neg e];omega
    clear hst;generalize dZ (o.tk.flatten.take k) body = s0 at *;generalize hs1 : dZ (o.tk.flatten.take (k + 1)) body = s1 at *
    (repeat' (first|(refine rg 3 (dX (dH T rfl) rfl (bH T rfl rfl rfl rfl rfl rfl (by decide) rfl ?_)))|refine nZ ?_));refine ⟨rfl,?_⟩
    by_cases hbd : tb = body
    · have e0 := hn0 hbd;subst e0
      (repeat' (first|refine wS ?_|refine wB ?_|(refine wC rfl ?_ ?_<;>(intro hb;(try simp only [nm] at hb);try (exfalso;omega)))|(refine rg 4 (jQ T rfl (lW T rfl (vV (cT rfl rfl) ?_))))|(refine rg 5 (lW T rfl (jQ T rfl (vV (eE rfl rfl (by omega) (by omega)) (bH T rfl rfl rfl rfl rfl rfl (by decide) rfl ?_)))))|refine nZ ?_));all_goals try (exfalso;omega)
      all_goals
        show X8 _ _ _ _ [AB.cells [AV.i body],AB.cells [AV.i (dZ (o.tk.flatten.take (k + 1)) body)]];rw [hs1];exact ⟨[0,1],rfl,trivial,⟨.inr rfl,.inr rfl,trivial⟩,by decide,YG⟩
    · have e0 := hn1 hbd;subst e0
      (repeat' (first|refine wS ?_|refine wB ?_|refine wK ?_|(refine wC rfl ?_ ?_<;>(intro hb;(try simp only [nm] at hb);try (exfalso;omega)))|(refine rg 4 (jQ T rfl (lW T rfl (vV (cT rfl rfl) ?_))))|refine nZ ?_));all_goals try (exfalso;omega)
      all_goals
        show X8 _ _ _ _ [AB.cells [AV.i body],AB.cells [AV.i (dZ (o.tk.flatten.take (k + 1)) body)]];rw [hs1];exact ⟨[0,1],rfl,trivial,⟨.inr rfl,.inr rfl,trivial⟩,by decide,YG⟩
  · rw [eA]
    (repeat' (first|refine wS ?_|refine wR ?_|(refine rg 6 (lW T rfl (aV ?_)))|refine nZ ?_));all_goals exact rQ
theorem DS (bk : Bk) (body : Int) (hl : bk.length ≤ 1000000) (h1 : ∀ o,o ∈ bk → o.tk.length ≤ 1000000 ∧ ∀ l,l ∈ o.tk → l.length ≤ 1000000) (hs : SF bk) :
    bJ Tryz.prog 26 [JF bk,.i body] [] (.i (mJ bk body)) [] := by
  have hbl := pM bk;refine dB T Tryz.func26 rfl rfl rfl rfl ?_
  (repeat' (first|refine wS ?_|refine wB ?_|(refine rg 0 (aV ?_))|(refine rg 1 (aV ?_))|(refine rg 2 (mW rfl (nV ?_));refine jQ T rfl (qW T rfl (mV ?_)))|refine nZ ?_));refine eN (X := {k : Nat // k ≤ bk.length}) (fun k => [(0,JF bk),(1,.i body),(5,.i (mJ (bk.take k.1) body)),(10,.rowE (wJ bk) 4),(11,.i (wJ bk).length),(12,.i k.1)]) (fun _ => []) (fun k => bk.length - k.1) ⟨0,bP _⟩ (rU []) ?_
  rintro ⟨k,hk⟩;dsimp only;by_cases hlt : k < bk.length
  · have hg := W3 hlt;have hm := aK hlt;have hf := MK bk[k] body (h1 _ hm).1 (h1 _ hm).2 (hs.1 _ hm);have hrt := HN (b := body) hlt;have hb1 := hs.2 body k;have hb2 := hs.2 body (k + 1);generalize bk[k] = o at *;generalize dZ o.tk.flatten body = q at *;generalize mJ (bk.take k) body = s0 at *
    (repeat' (first|refine wS ?_|refine wB ?_|refine wK ?_|refine wT ?_|(refine rg 3 (vV (nQ rfl rfl (by omega)) ?_))|(refine rg 4 (mW rfl (aV ?_)))|(refine rg 5 (eW rfl (nV ?_));refine jQ T rfl (mW rfl (vV (ix T rfl (by omega) (yD bk) hg) (mW rfl (vV (kC (hf)) (vV (eE rfl rfl (by omega) (by omega)) (aV ?_)))))))|(refine rg 6 (vV (eE rfl rfl (by omega) (by omega)) (mV ?_)))|refine nZ ?_));all_goals try (exfalso;omega)
    all_goals exact ⟨⟨k + 1,hlt⟩,by dsimp only;omega,⟨[],rfl,⟨rfl,rfl,by dsimp only;rw [hrt];rfl,rfl,rfl,rfl,trivial⟩,trivial,aU,fun _ h => absurd h (gY _)⟩⟩
  · obtain rfl : k = bk.length := by omega
    rw [eA]
    (repeat' (first|refine wS ?_|refine wR ?_|refine wE ?_|refine wU ?_|(refine rg 3 (vV (nR rfl rfl (by omega)) ?_))|(refine rg 7 (mW rfl (aV ?_)))|refine nZ ?_));all_goals try (exfalso;omega)
    all_goals exact rQ
end Go.Proofs.YtdiogjgohbbllaaGreatDoor
namespace Go.Or
open Go Go.Ab Go.MapKept
def IW (m : List (Int × Int)) (t : Tk) : List (Int × Int) := match m.findIdx? fun e => decide (e.1 = t.1) with
  | some i => m.set i (t.1,(m.getD i (0,0)).2 + t.2)
  | none => m ++ [(t.1,t.2)]
def qY (l : List Tk) : List (Int × Int) := l.foldl IW []
theorem Q2 (l : List Tk) (t : Tk) : qY (l ++ [t]) = IW (qY l) t := by unfold qY;rw [List.foldl_append];rfl
structure C3 (l : List Tk) (m : List (Int × Int)) : Prop where
  nd : (m.map (·.1)).Nodup
  val : ∀ e,e ∈ m → e.2 = dZ l e.1
  cov : ∀ t,t ∈ l → t.1 ∈ m.map (·.1)
  sub : ∀ e,e ∈ m → ∃ t,t ∈ l ∧ t.1 = e.1
theorem AJ {m : List (Int × Int)} {i : Nat} {k v w : Int} (h : m[i]? = some (k,w)) : (m.set i (k,v)).map (·.1) = m.map (·.1) := by
  apply cS;intro j;rw [aR,aR,bT];split
  · rename_i e;subst e;rw [h];simp [(aA.1 h).1]
  · rfl
theorem rC {m : List (Int × Int)} {b : Int} {i : Nat} (h : (m.findIdx? fun e => decide (e.1 = b)) = some i) : m[i]? = some (b,(m.getD i (0,0)).2) := by
  rw [List.findIdx?_eq_some_iff_getElem] at h;obtain ⟨h1,h2,_⟩ := h;rw [aB h1,aD,aB h1];have : m[i].1 = b := by simpa using h2
  rw [← this];rfl
theorem oX {m : List (Int × Int)} {b : Int} (h : (m.findIdx? fun e => decide (e.1 = b)) = none) : b ∉ m.map (·.1) := by
  rw [List.findIdx?_eq_none_iff] at h;intro hm;obtain ⟨e,he,rfl⟩ := aJ.1 hm;have := h e he;simp at this
theorem C3.nil : C3 [] [] := ⟨aU,fun e h => absurd h cG,fun t h => absurd h cG,fun e h => absurd h cG⟩
theorem C3.next {l : List Tk} {m : List (Int × Int)} (h : C3 l m) (t : Tk) : C3 (l ++ [t]) (IW m t) := by
  have hs : ∀ b,dZ (l ++ [t]) b = dZ l b + if t.1 = b then t.2 else 0 := fun b => by rw [iL];simp [dZ]
  unfold IW;split
  · rename_i i hi;have hg := rC hi;have hk := AJ (v := (m.getD i (0,0)).2 + t.2) hg;have hv := h.val _ (aH hg);dsimp only at hv;have hun : ∀ {j : Nat} {e : Int × Int},m[j]? = some e → e.1 = t.1 → j = i := fun {j e} hj he => by
      have hjl := (aA.1 hj).1;exact (rJ (by simpa using hjl) h.nd).1 (by rw [aR,aR,hj,hg];simp [he])
    refine ⟨by rw [hk];exact h.nd,fun e he => ?_,fun u hu => ?_,fun e he => ?_⟩
    · obtain ⟨j,hj⟩ := bR.1 he;rw [bT] at hj;split at hj
      · split at hj
        · cases hj;rw [hs,hv];simp
        · cases hj
      · rename_i hne;have hm := aH hj;rw [hs,if_neg (fun e1 => hne (hun hj e1.symm).symm),h.val e hm];omega
    · rw [hk];rcases bD.1 hu with hu | hu
      · exact h.cov u hu
      · rw [bL.1 hu];exact aJ.2 ⟨_,aH hg,rfl⟩
    · obtain ⟨j,hj⟩ := bR.1 he;rw [bT] at hj;split at hj
      · split at hj
        · cases hj;exact ⟨t,by simp,rfl⟩
        · cases hj
      · obtain ⟨u,h1,h2⟩ := h.sub e (aH hj);exact ⟨u,nU _ h1,h2⟩
  · rename_i hi;have hni := oX hi;have hz : dZ l t.1 = 0 := qO fun u hu e => hni (e ▸ h.cov u hu)
    refine ⟨?_,fun e he => ?_,fun u hu => ?_,fun e he => ?_⟩
    · rw [cO,dY];exact ⟨h.nd,by simp,fun a ha b hb e => by simp at hb;subst hb;exact hni (e ▸ ha)⟩
    · rcases bD.1 he with he | he
      · have hne : t.1 ≠ e.1 := fun e1 => hni (e1 ▸ aJ.2 ⟨e,he,rfl⟩);rw [hs,if_neg hne,h.val e he];omega
      · rw [bL.1 he,hs];dsimp only;rw [hz,if_pos rfl];omega
    · rw [cO];rcases bD.1 hu with hu | hu
      · exact nU _ (h.cov u hu)
      · rw [bL.1 hu];simp
    · rcases bD.1 he with he | he
      · obtain ⟨u,h1,h2⟩ := h.sub e he;exact ⟨u,nU _ h1,h2⟩
      · rw [bL.1 he];exact ⟨t,by simp,rfl⟩
theorem KF {α : Type} {P : List α → Prop} (h0 : P []) (h1 : ∀ l x,P l → P (l ++ [x])) : ∀ l,P l := fun l => by
  have key : ∀ m : List α,P m.reverse := fun m => by
    induction m with
    | nil => exact h0
    | cons x m ih => rw [List.reverse_cons];exact h1 _ _ ih
  have := key l.reverse
  rwa [List.reverse_reverse] at this
theorem FX (l : List Tk) : C3 l (qY l) := KF (P := fun l => C3 l (qY l)) C3.nil (fun l t h => by rw [Q2];exact h.next t) l
abbrev P9 (m : List (Int × Int)) : List Value := m.map fun e => kI e.1
abbrev FU (m : List (Int × Int)) : List AV := m.map fun e => AV.i e.2
theorem LX {a b : Int} (h : kI a = kI b) : a = b := by cases h;rfl
theorem TL {m : List (Int × Int)} (h : (m.map (·.1)).Nodup) : (P9 m).Nodup := by
  rw [show P9 m = (m.map (·.1)).map kI by simp [P9]]
  generalize m.map (·.1) = L at *
  induction L with
  | nil => exact aU
  | cons x l ih =>
    rw [aN] at h;rw [List.map_cons,aN];exact ⟨fun hm => by obtain ⟨y,hy,e⟩ := aJ.1 hm;exact h.1 (LX e ▸ hy),ih h.2⟩
theorem xM (m : List (Int × Int)) : ∀ q,q ∈ P9 m → IsKey (.int .i64) q := by
  intro q hq;obtain ⟨e,_,rfl⟩ := aJ.1 hq;exact I1 _
theorem TK {m : List (Int × Int)} {b : Int} (h : b ∉ m.map (·.1)) : kI b ∉ P9 m := fun hm => by
  obtain ⟨e,he,e1⟩ := aJ.1 hm;exact h (aJ.2 ⟨e,he,LX e1⟩)
theorem PV {m : List (Int × Int)} {i : Nat} {b v w : Int} (h : m[i]? = some (b,w)) : P9 (m.set i (b,v)) = P9 m := by
  have e : ∀ q : List (Int × Int),P9 q = (q.map (·.1)).map kI := fun q => by simp [P9]
  rw [e,e,AJ h]
theorem PU {m : List (Int × Int)} {i : Nat} {b v : Int} : FU (m.set i (b,v)) = (FU m).set i (.i v) := by
  show List.map (fun e : Int × Int => AV.i e.2) (m.set i (b,v)) = _;rw [oF]
theorem oN (m : List (Int × Int)) : AV.idfL (FU m) = true := by
  induction m with
  | nil => rfl
  | cons e m ih => exact ih
def qJ (l : List Tk) (sure : List Bo) (D : List Int) : List Bo := sure.mapIdx fun j b => if (j : Int) ∈ D then (b.1,max 0 (b.2.1 - dZ l j),b.2.2) else b
theorem KV {l : List Tk} {sure : List Bo} {D : List Int} : (qJ l sure D).length = sure.length := by simp [qJ]
theorem KU {l : List Tk} {sure : List Bo} : qJ l sure [] = sure := by
  unfold qJ;apply cS;intro j;rw [eR];cases sure[j]? <;> simp
theorem KW {l : List Tk} {sure : List Bo} {D : List Int} {b : Int} (hb : 0 ≤ b) (hl : b < sure.length) (hn : b ∉ D) : (qJ l sure D).getD b.toNat (0,0,0) = sure.getD b.toNat (0,0,0) := by
  unfold qJ;rw [aD,eR,aD,aB (by omega)]
  simp only [iX,oE];rw [if_neg (by rw [FF hb];exact hn)]
theorem HU {l : List Tk} {sure : List Bo} {D : List Int} {b : Int} (hb : 0 ≤ b) (hl : b < sure.length) (hn : b ∉ D) :
    (qJ l sure D).set b.toNat ((sure.getD b.toNat (0,0,0)).1,max 0 (cnt sure b - dZ l b),(sure.getD b.toNat (0,0,0)).2.2) = qJ l sure (D ++ [b]) := by
  apply cS;intro j;rw [bT];unfold qJ;rw [eR,eR];by_cases hj : b.toNat = j
  · subst hj;rw [if_pos rfl,if_pos (by simp;omega),aB (by omega)]
    simp only [iX];rw [FF hb,if_pos (by simp)]
    unfold cnt;rw [aD,aB (by omega)]
    rfl
  · rw [if_neg hj];have : ((j : Int) ∈ D ++ [b]) ↔ (j : Int) ∈ D := by
      rw [bD,bL];exact ⟨fun h => h.resolve_right (by omega),.inl⟩
    simp only [this]
theorem HV {l : List Tk} {sure : List Bo} {D : List Int} {b : Int} (hl : (sure.length : Int) ≤ b) : qJ l sure (D ++ [b]) = qJ l sure D := by
  apply cS;intro j;unfold qJ;rw [eR,eR];by_cases hj : j < sure.length
  · have : ((j : Int) ∈ D ++ [b]) ↔ (j : Int) ∈ D := by
      rw [bD,bL];exact ⟨fun h => h.resolve_right (by omega),.inl⟩
    simp only [this]
  · rw [bN (by omega)];rfl
theorem KX {bk : Bk} {sure : List Bo} {D : List Int} (hD : ∀ t,t ∈ iQ bk → t.1 ∈ D) (hc : ∀ b : Int,0 ≤ b → 0 ≤ cnt sure b) : qJ (iQ bk) sure D = eT bk sure := by
  apply cS;intro j;unfold qJ eT;rw [eR,eR];cases hj : sure[j]? with
  | none => rfl
  | some x =>
    simp only [iX];congr 1;unfold mJ;split
    · rfl
    · rename_i hn;rw [qO fun t ht e => hn (by rw [← e];exact hD t ht)]
      have := hc j (by omega)
      unfold cnt at this;rw [bK,aD,hj] at this;simp only [oE] at this;rw [Int.sub_zero,Int.max_eq_right this]
theorem IV {bk : Bk} {k : Nat} (h : k < bk.length) : iQ (bk.take (k + 1)) = iQ (bk.take k) ++ bk[k].tk.flatten := by
  unfold iQ;rw [aX h,fE];simp
def N8 (bs : List Nat) (d : List Nat) : List Nat := d.map fun i => bs.getD i 0
theorem HL {bs d : List Nat} (hnd : bs.Nodup) (hlt : ∀ i,i ∈ d → i < bs.length) (h : ∀ b,b ∈ bs → b ∈ N8 bs d) : ∀ i,i < bs.length → i ∈ d := fun i hi => by
  obtain ⟨j,hj,e⟩ := aJ.1 (h bs[i] (aK hi));have hjl := hlt j hj;rw [aD,aB hjl] at e;have : j = i := (rJ hjl hnd).1 (by rw [aB hjl,aB hi];simpa using e)
  rw [← this];exact hj
theorem HK {bs d : List Nat} {i b : Nat} (hi : bs[i]? = some b) (h : b ∉ N8 bs d) : i ∉ d := fun hd => h (aJ.2 ⟨i,hd,by rw [aD,hi];rfl⟩)
theorem DN {bs d : List Nat} {i b : Nat} (hi : bs[i]? = some b) : N8 bs d ++ [b] = N8 bs (d ++ [i]) := by
  unfold N8;rw [cO];simp [aD,hi]
theorem P6 {d : List Nat} {n : Nat} (hnd : d.Nodup) (hlt : ∀ i,i ∈ d → i < n) : d.length ≤ n := by
  induction n generalizing d with
  | zero =>
    cases d with
    | nil => exact aO _
    | cons x d => exact absurd (hlt x aP) (by omega)
  | succ n ih =>
    have h1 := ih (d := d.erase n) (hnd.erase n) fun i hi => by
      have h2 := hlt i (List.mem_of_mem_erase hi);have h3 : i ≠ n := fun e => by subst e;exact (List.Nodup.mem_erase_iff hnd).1 hi |>.1 rfl
      omega
    rw [List.length_erase] at h1;split at h1 <;> omega
theorem M9 {h : Hp} {i : Nat} {θ : Nat → Nat} {km since c0 : Nat} {a b : List Nat} (hk : h[i]? = some (.iter (θ km) since a c0)) (e : a = b) : h[i]? = some ((AB.iter km since b c0).map θ) := by rw [hk,e];rfl
theorem BG {d : List Nat} {i : Nat} (h : d.Nodup) (hi : i ∉ d) : (d ++ [i]).Nodup := by
  rw [dY];exact ⟨h,by simp,fun a ha b hb e => hi (by simp at hb;rw [← hb,← e];exact ha)⟩
theorem qP {h : Hp} {i : Nat} {θ : Nat → Nat} {ks ks' : List Value} {vs vs' : List AV} (hk : h[i]? = some (.mapO ks' vs')) (e1 : ks' = ks) (e2 : vs' = vs) (hi : AV.idfL vs = true) : h[i]? = some ((AB.mapO ks vs).map θ) := by
  subst e1 e2;rw [hk];show _ = some (AB.mapO ks' (AV.mapL θ vs'));rw [lN θ vs' hi]
theorem zB {h : Hp} {i : Nat} {θ : Nat → Nat} {ks : List Value} {vs vs' : List AV} {bs : List Nat} {ck : Nat} (hk : h[i]? = some (.mapB ks vs' bs ck)) (e : vs' = vs) (hi : AV.idfL vs = true) : h[i]? = some ((AB.mapB ks vs bs ck).map θ) := by
  subst e;rw [hk];show _ = some (AB.mapB ks (AV.mapL θ vs') bs ck);rw [lN θ vs' hi]
theorem mN {l a b : List Tk} (h : l = a ++ b) (hn : ∀ t,t ∈ l → 0 ≤ t.2) (x : Int) : 0 ≤ dZ a x ∧ dZ a x ≤ dZ l x := by
  have nn : ∀ m : List Tk,(∀ t,t ∈ m → 0 ≤ t.2) → 0 ≤ dZ m x := fun m hm => by
    induction m with
    | nil => exact uL _
    | cons t m ih =>
      have := ih fun u hu => hm u (aF _ hu);have h1 := hm t aP;simp only [dZ];split <;> omega
  subst h;rw [iL];have h1 := nn a fun t ht => hn t (nU _ ht);have h2 := nn b fun t ht => hn t (Y7 _ ht);omega
structure K0 (bk : Bk) : Prop where
  nn : ∀ t,t ∈ iQ bk → 0 ≤ t.1 ∧ 0 ≤ t.2
  le : ∀ b : Int,dZ (iQ bk) b ≤ 1000000000000
theorem J8 (a b : Bk) : iQ (a ++ b) = iQ a ++ iQ b := by unfold iQ;rw [fE]
theorem CM {bk : Bk} {o : Od} (h : o ∈ bk) {t : Tk} (ht : t ∈ o.tk.flatten) : t ∈ iQ bk := dK.2 ⟨o,h,ht⟩
theorem K0.bk {bk : Bk} (h : K0 bk) : SF bk := by
  refine ⟨fun o ho b k => ?_,fun b k => ?_⟩
  · obtain ⟨i,hi⟩ := bR.1 ho;obtain ⟨hl,he⟩ := aA.1 hi;have e : iQ bk = iQ (bk.take i) ++ (o.tk.flatten ++ iQ (bk.drop (i + 1))) := by
      conv => lhs;rw [← bU i bk,aS hl,he]
      rw [J8];rfl
    have hm := h.le b;have h1 := mN e (fun t ht => (h.nn t ht).2) b;have e2 : o.tk.flatten = o.tk.flatten.take k ++ o.tk.flatten.drop k := (bU _ _).symm;have h2 := mN e2 (fun t ht => (h.nn t (CM ho ht)).2) b;rw [e,iL,iL] at hm;have h3 := mN (l := iQ (bk.drop (i + 1))) (a := iQ (bk.drop (i + 1))) (b := []) (by simp) (fun t ht => (h.nn t (by rw [e];simp [ht])).2) b
    omega
  · have e : iQ bk = iQ (bk.take k) ++ iQ (bk.drop k) := by rw [← J8,bU]
    have := mN e (fun t ht => (h.nn t ht).2) b;have := h.le b;unfold mJ;omega
theorem K0.part {bk : Bk} (h : K0 bk) {k j : Nat} (hk : k < bk.length) (b : Int) : 0 ≤ dZ (iQ (bk.take k) ++ bk[k].tk.flatten.take j) b ∧ dZ (iQ (bk.take k) ++ bk[k].tk.flatten.take j) b ≤ 1000000000000 := by
  have e : iQ bk = (iQ (bk.take k) ++ bk[k].tk.flatten.take j) ++ (bk[k].tk.flatten.drop j ++ iQ (bk.drop (k + 1))) := by
    conv => lhs;rw [← bU k bk,aS hk]
    rw [J8];show _ ++ (bk[k].tk.flatten ++ _) = _;generalize bk[k].tk.flatten = F
    conv => lhs;rw [← bU j F]
    simp only [bF];rfl
  have := mN e (fun t ht => (h.nn t ht).2) b;have := h.le b;omega
theorem XI (S : Nat → Prop) (w : World) (ρ : Pl) : R S w (.i 0) ρ (.int .i64 0) := by simp [R]
end Go.Or
namespace Go.Proofs.YtdiogjgohbbllaaGreatDoor
open Go Go.Ab Go.Or Go.MapKept
attribute [local irreducible] VC AW bQ bJ eQ AY VY C5
set_option maxHeartbeats 4000000
theorem BI : Tryz.prog.underlying 103 = some (.map 3 3) := by kernel_rfl
theorem GA : pR Tryz.prog 3 (IsKey (.int .i64)) := pR.int (by kernel_rfl)
theorem YM : ∀ w,(zeroValue 3).run Tryz.prog w = .ok (.int .i64 0) w := Z5 (by kernel_rfl)
theorem WD : ∀ i : Nat,i < 2 → ([0,1] : List Nat)[i]? = some i := by decide
theorem SV (bk : Bk) (hl : bk.length ≤ 1000000) (h1 : ∀ o,o ∈ bk → o.tk.length ≤ 1000000 ∧ ∀ l,l ∈ o.tk → l.length ≤ 1000000) (hs : K0 bk) :
    bJ Tryz.prog 50 [JF bk] [] (.mp 0) [.mapO (P9 (qY (iQ bk))) (FU (qY (iQ bk)))] := by
  have hbl := pM bk;refine dB T Tryz.func50 rfl rfl rfl rfl ?_
  (repeat' (first|refine wS ?_|refine wB ?_|(refine rg 0 (aV ?_))|(refine rg 1 (dX (by exact Q9) rfl ?_);refine dX (dH T rfl) rfl (bH T rfl rfl rfl rfl rfl rfl (by decide) rfl ?_))|(refine rg 2 (mW rfl (nV ?_));refine jQ T rfl (qW T rfl (mV ?_)))|refine nZ ?_));refine eN (X := {k : Nat // k ≤ bk.length}) (fun k => [(0,JF bk),(3,.ptr 1 0),(10,.rowE (wJ bk) 4),(11,.i (wJ bk).length),(12,.i k.1)]) (fun k => [.mapO (P9 (qY (iQ (bk.take k.1)))) (FU (qY (iQ (bk.take k.1)))),.cells [.mp 0]]) (fun k => bk.length - k.1) ⟨0,bP _⟩ ⟨[0,1],rfl,(by repeat first|exact trivial|refine ⟨rfl,?_⟩),⟨.inr rfl,.inr rfl,trivial⟩,by decide,mR _⟩ ?_
  rintro ⟨k,hk⟩;dsimp only;by_cases hlt : k < bk.length
  · have hg := W3 hlt;have hm := aK hlt;have hsp := fun (j : Nat) (b : Int) => hs.part (j := j) hlt b;have hall := IV hlt;have hal := SD bk[k];have hit := NP bk[k] (h1 _ hm).1 (h1 _ hm).2;generalize bk[k] = o at *;generalize iQ (bk.take k) = A at *
    (repeat' (first|refine wS ?_|refine wB ?_|refine wK ?_|refine wT ?_|(refine rg 3 (vV (nQ rfl rfl (by omega)) ?_))|(refine rg 4 (mW rfl (aV ?_)))|(refine rg 5 (mW rfl (nV ?_));refine jQ T rfl (mW rfl (vV (ix T rfl (by omega) (yD bk) hg) (vV (kC (hal)) ?_))))|refine nZ ?_));refine CJ [] [0,1] [(0,JF bk),(3,.ptr 1 0),(10,.rowE (wJ bk) 4),(11,.i (wJ bk).length),(12,.i k)] (fun j => [.mapO (P9 (qY (A ++ o.tk.flatten.take j))) (FU (qY (A ++ o.tk.flatten.take j))),.cells [.mp 0]]) 2 rfl hit rfl rfl rfl trivial aU rfl (by repeat first|exact trivial|refine ⟨rfl,?_⟩) ⟨.inr (qP rfl (by simp) (by simp) (oN _)),.inr rfl,trivial⟩ (by decide) (mR _) (by simp) (bP _) (bA rfl) rfl (by decide) (fun m hm => by rw [qN hm];exact ⟨rfl,rfl⟩) ?_ ?_
    · intro j hj;rw [qN hj];have hb1 := hsp j;have hb2 := hsp (j + 1);have hsn : qY (A ++ o.tk.flatten.take (j + 1)) = IW (qY (A ++ o.tk.flatten.take j)) o.tk.flatten[j] := by
        rw [aX hj,← bF,Q2]
      have hs2 : ∀ b,dZ (A ++ o.tk.flatten.take (j + 1)) b = dZ (A ++ o.tk.flatten.take j) b + (if o.tk.flatten[j].1 = b then o.tk.flatten[j].2 else 0) := fun b => by
        rw [aX hj,← bF,iL];simp [dZ]
      have hmo := FX (A ++ o.tk.flatten.take j);generalize o.tk.flatten[j] = t at *;generalize A ++ o.tk.flatten.take j = Y at *;generalize hM1 : qY (A ++ o.tk.flatten.take (j + 1)) = M1 at *;generalize hY1 : A ++ o.tk.flatten.take (j + 1) = Y1 at *;generalize qY Y = M at *;obtain ⟨tb,tn⟩ := t;dsimp only at *;have hnd := TL hmo.nd;unfold IW at hsn;cases hfi : M.findIdx? fun e => decide (e.1 = tb) with
      | some i =>
        rw [hfi] at hsn;dsimp only at hsn;have hg1 := rC hfi;have hk1 : (P9 M)[i]? = some (kI tb) := by rw [aR,hg1];rfl
        have hk2 : (FU M)[i]? = some (.i (M.getD i (0,0)).2) := by rw [aR,hg1];rfl
        have hv := hmo.val _ (aH hg1);dsimp only at hv;have c1 := hb1 tb;have c2 := hb2 tb;rw [hs2,if_pos rfl] at c2;have e1 := PV (v := (M.getD i (0,0)).2 + tn) hg1;have e2 := PU (m := M) (i := i) (b := tb) (v := (M.getD i (0,0)).2 + tn);rw [← hsn] at e1 e2;generalize (M.getD i (0,0)).2 = v at *
        (repeat' (first|(refine rg 6 (dX (dH T rfl) rfl (bH T rfl rfl rfl rfl rfl rfl (by decide) rfl ?_)))|refine nZ ?_));refine ⟨rfl,?_⟩
        (repeat' (first|refine wB ?_|(refine rg 7 (lW T rfl (jQ T rfl (vV (by exact EM BI GA rfl rfl (FZ _) rfl (xM M) (I1 _) hnd hk1 hk2) ?_)));refine jQ T rfl (vV (eE rfl rfl (by omega) (by omega)) (GZ BI GA rfl rfl (FZ _) rfl rfl (xM M) (I1 _) hnd hk1 ?_)))|refine nZ ?_));all_goals try (exfalso;omega)
        all_goals
          show X8 _ _ _ _ [AB.mapO (P9 (qY _)) (FU (qY _)),AB.cells [AV.mp 0]];rw [hY1,hM1];exact ⟨[0,1],rfl,trivial,⟨.inr (qP rfl e1.symm e2.symm (oN _)),.inr rfl,trivial⟩,by decide,WD⟩
      | none =>
        rw [hfi] at hsn;dsimp only at hsn;have hno := TK (oX hfi);have c2 := hb2 tb;have c0 : dZ Y tb = 0 := qO fun u hu e => oX hfi (e ▸ hmo.cov u hu);rw [hs2,if_pos rfl,c0] at c2;have e1 : P9 M1 = P9 M ++ [kI tb] := by rw [hsn];simp [P9]
        have e2 : FU M1 = FU M ++ [.i (0 + tn)] := by rw [hsn];simp [FU]
        (repeat' (first|(refine rg 6 (dX (dH T rfl) rfl (bH T rfl rfl rfl rfl rfl rfl (by decide) rfl ?_)))|refine nZ ?_));refine ⟨rfl,?_⟩
        (repeat' (first|refine wB ?_|(refine rg 7 (lW T rfl (jQ T rfl (vV (by exact B7 (zA := .i 0) BI GA YM XI rfl rfl (FZ _) rfl (xM M) (I1 _) hno) ?_)));refine jQ T rfl (vV (eE rfl rfl (by omega) (by omega)) (M2 BI GA rfl rfl (FZ _) rfl rfl (xM M) (I1 _) hno ?_)))|refine nZ ?_));all_goals try (exfalso;omega)
        all_goals
          show X8 _ _ _ _ [AB.mapO (P9 (qY _)) (FU (qY _)),AB.cells [AV.mp 0]];rw [hY1,hM1];exact ⟨[0,1],rfl,trivial,⟨.inr (qP rfl e1.symm e2.symm (oN _)),.inr rfl,trivial⟩,by decide,WD⟩
    · rw [eA,← hall]
      (repeat' (first|(refine rg 8 (vV (eE rfl rfl (by omega) (by omega)) (mV ?_)))|refine nZ ?_));all_goals exact ⟨⟨k + 1,hlt⟩,by dsimp only;omega,⟨[0,1],rfl,(by repeat first|exact trivial|refine ⟨rfl,?_⟩),⟨.inr (qP rfl rfl rfl (oN _)),.inr rfl,trivial⟩,by decide,mR _⟩⟩
  · obtain rfl : k = bk.length := by omega
    rw [eA]
    (repeat' (first|refine wS ?_|refine wR ?_|refine wE ?_|refine wU ?_|(refine rg 3 (vV (nR rfl rfl (by omega)) ?_))|(refine rg 9 (lW T rfl (aV ?_)))|refine nZ ?_));all_goals try (exfalso;omega)
    all_goals exact ⟨.inl rfl,[0],_,rfl,rfl,rfl,⟨.inr (qP rfl rfl rfl (oN _)),trivial⟩,by decide,mR _⟩
theorem D7 (bk : Bk) (sure : List Bo) (hl : bk.length ≤ 1000000) (h1 : ∀ o,o ∈ bk → o.tk.length ≤ 1000000 ∧ ∀ l,l ∈ o.tk → l.length ≤ 1000000) (hs : K0 bk) (hsl : sure.length ≤ 1000000) (hc : ∀ b : Int,0 ≤ b → 0 ≤ cnt sure b ∧ cnt sure b ≤ 20000) :
    bJ Tryz.prog 19 [JF bk,.rowE (eX sure) 3] [] (.sl 0 0 (eT bk sure).length 3) [.arr (eX (eT bk sure)) 3] := by
  have hrm := SV bk hl h1 hs;have hcl := R5 sure hsl;have hmo := FX (iQ bk);have hnn := hs.nn;have hle := hs.le;rw [gX];have hfin : ∀ D : List Int,(∀ t,t ∈ iQ bk → t.1 ∈ D) → qJ (iQ bk) sure D = eT bk sure := fun D hD => KX hD fun b hb => (hc b hb).1;generalize eT bk sure = SP at *;generalize iQ bk = A at *;generalize qY A = m at *;refine dB T Tryz.func19 rfl rfl rfl rfl ?_
  (repeat' (first|refine wS ?_|refine wB ?_|(refine rg 0 (aV ?_))|(refine rg 1 (mW rfl (dX (by exact qB rfl rfl hcl (.inr ⟨rfl,rfl,by simp⟩)) rfl ?_));refine aV ?_)|(refine rg 2 (mW rfl (dX (by exact qB rfl rfl hrm (.inr ⟨rfl,rfl,by simp⟩)) rfl ?_));refine DE 1 rfl fun bs ck hb1' hb2' hb3' hb4'=>?_;refine dX (by exact MJ BI rfl rfl) rfl ?_)|refine nZ ?_));have hbl : bs.length = m.length := by rw [hb1'];simp
  refine eN (X := {d : List Nat // d.Nodup ∧ ∀ i,i ∈ d → i < m.length}) (fun d => [(5,.sl 0 0 sure.length 3),(12,.ptr 2 0)]) (fun d => [.arr (eX (qJ A sure (d.1.map fun i => (m.getD i (0,0)).1))) 3,.mapB (P9 m) (FU m) bs ck,.iter 1 ck (N8 bs d.1) ck]) (fun d => m.length - d.1.length) ⟨[],aU,fun i hi => by cases hi⟩ ⟨[0,1,2],rfl,(by repeat first|exact trivial|refine ⟨rfl,?_⟩),⟨.inr (cN rfl (by rw [gS _ (pL _)];exact congrArg eX KU.symm) (pL _)),.inr (zB rfl (lN _ _ (oN _)) (oN _)),.inr rfl,trivial⟩,by decide,mR _⟩ ?_
  rintro ⟨d,hnd,hlt⟩;dsimp only;have hdl := P6 hnd hlt
  repeat' (first|refine wS ?_|refine wB ?_|refine wK ?_|refine wE ?_|refine wT ?_|refine wU ?_|(refine rg 3 ?_;refine OM rfl rfl rfl hb4' (aO _) rfl (fun hend=>DD 1 rfl ?_) (fun i kv v b g1 g1' g2 g3=>?_);(all_goals (refine xV ?_)))|refine nZ ?_)
  · have hall := HL hb3' (by rw [hbl];exact hlt) hend
    rw [hbl] at hall;have hD := hfin (d.map fun i => (m.getD i (0,0)).1) fun t ht => by
      obtain ⟨e,he,e1⟩ := aJ.1 (hmo.cov t ht);obtain ⟨i,hi⟩ := bR.1 he;refine aJ.2 ⟨i,hall i (aA.1 hi).1,?_⟩;rw [aD,hi];exact e1
    rw [hD]
    (repeat' (first|refine wR ?_|(refine rg 7 (mW rfl (aV ?_)))|refine nZ ?_));all_goals exact ⟨.inl rfl,[0],_,rfl,rfl,rfl,⟨.inr (cN rfl rfl (pL _)),trivial⟩,by decide,mR _⟩
  · rw [aR] at g1;obtain ⟨⟨b0,v0⟩,hac,rfl⟩ := bY.1 g1;have hv : v = .i v0 := by rw [aR,hac] at g1';simpa using g1'.symm
    subst hv;have k1 : (P9 m)[i]? = some (kI b0) := by rw [aR,hac];rfl
    have k2 : (FU m)[i]? = some (.i v0) := by rw [aR,hac];rfl
    have hnew := HK g2 g3;have hil := (aA.1 hac).1;have hsn := DN (d := d) g2;have hd' : (d ++ [i]).Nodup ∧ ∀ j,j ∈ d ++ [i] → j < m.length := ⟨BG hnd hnew,fun j hj => (bD.1 hj).elim (hlt j) (fun e => by simp at e;rw [e];exact hil)⟩
    have hdl2 := P6 hd'.1 hd'.2;rw [aC,bE] at hdl2;have hmm := aH hac;have hval := hmo.val _ hmm;obtain ⟨u,hu1,hu2⟩ := hmo.sub _ hmm;have hb0 := (hnn u hu1).1;dsimp only at hval hu2;rw [hu2] at hb0;have hvn : 0 ≤ v0 ∧ v0 ≤ 1000000000000 := by
      rw [hval];exact ⟨(mN (l := A) (a := A) (b := []) (by simp) (fun t ht => (hnn t ht).2) b0).1,hle b0⟩
    have hmap : (d ++ [i]).map (fun i => (m.getD i (0,0)).1) = d.map (fun i => (m.getD i (0,0)).1) ++ [b0] := by
      rw [cO];simp only [List.map_cons,List.map_nil];rw [aD,hac];rfl
    have hnb : b0 ∉ d.map (fun i => (m.getD i (0,0)).1) := fun hm => by
      obtain ⟨j,hj,e⟩ := aJ.1 hm;have hjl := hlt j hj;have e2 : (m.map (·.1))[j]? = (m.map (·.1))[i]? := by
        rw [aR,aR,hac,aB hjl];rw [aD,aB hjl] at e;simpa using e
      exact hnew (((rJ (by simpa using hjl) hmo.nd).1 e2) ▸ hj)
    generalize hD1 : (d ++ [i]).map (fun i => (m.getD i (0,0)).1) = D1 at *;generalize d.map (fun i => (m.getD i (0,0)).1) = D at *;subst hmap;have hbl2 := eP (qJ A sure D);have hol := KV (l := A) (sure := sure) (D := D);by_cases hin : b0 < sure.length
    · have hst := HU (l := A) hb0 hin hnb;have hge := KW (l := A) hb0 hin hnb;have hbo := E2 (bs := qJ A sure D) hb0 (by omega)
      have hcn : cnt (qJ A sure D) b0 = cnt sure b0 := by unfold cnt;rw [hge]
      rw [hge,hcn] at hbo;have hcc := hc b0 hb0;rw [← hval] at hst;have hst2 := congrArg eX hst;rw [← NA] at hst2;dsimp only at hst2;generalize (sure.getD b0.toNat (0,0,0)).1 = x1 at *;generalize (sure.getD b0.toNat (0,0,0)).2.2 = x3 at *;generalize cnt sure b0 = c at *;generalize hO1 : qJ A sure (D ++ [b0]) = O1 at *;generalize qJ A sure D = O at *
      (repeat' (first|refine wS ?_|refine wT ?_|(refine rg 4 (dX (by exact BW rfl rfl rfl rfl g2 k1 k2) rfl ?_);refine xW rfl (xW rfl (mY ?_)))|(refine rg 5 (eW rfl (qW T rfl (vV (nQ rfl rfl (by omega)) ?_))))|(refine rg 6 (eW rfl (eW rfl (vV (by exact cI T rfl rfl rfl rfl rfl (by omega) (by omega)) ?_)));refine fW T rfl (vV (by exact bC T rfl rfl (eF rfl hbo) rfl) ?_);refine mW rfl (vV (gH rfl rfl (by omega) (by omega)) (vV (TV rfl rfl) (vV (by exact cI T rfl rfl rfl rfl rfl (by omega) (by omega)) ?_)));refine fW T rfl (bH T rfl rfl rfl rfl rfl rfl (by decide) (oZ rfl hbo rfl rfl) ?_))|refine nZ ?_));all_goals try (exfalso;omega)
      all_goals exact ⟨⟨d ++ [i],hd'⟩,by dsimp only;rw [aC,bE];omega,[0,1,2],rfl,(by repeat first|exact trivial|refine ⟨rfl,?_⟩),⟨.inr (cN rfl (by dsimp only;rw [hD1,hO1,← hst2,Nat.zero_add]) (pL _)),.inr (zB rfl rfl (oN _)),.inr (M9 rfl hsn),trivial⟩,by decide,mR _⟩
    · have hsk := HV (l := A) (sure := sure) (D := D) (b := b0) (by omega)
      (repeat' (first|refine wS ?_|refine wK ?_|refine wU ?_|(refine rg 4 (dX (by exact BW rfl rfl rfl rfl g2 k1 k2) rfl ?_);refine xW rfl (xW rfl (mY ?_)))|(refine rg 5 (eW rfl (qW T rfl (vV (nR rfl rfl (by omega)) ?_))))|refine nZ ?_));all_goals try (exfalso;omega)
      all_goals exact ⟨⟨d ++ [i],hd'⟩,by dsimp only;rw [aC,bE];omega,[0,1,2],rfl,(by repeat first|exact trivial|refine ⟨rfl,?_⟩),⟨.inr (cN rfl (by dsimp only;rw [hD1,hsk]) (pL _)),.inr (zB rfl rfl (oN _)),.inr (M9 rfl hsn),trivial⟩,by decide,mR _⟩
end Go.Proofs.YtdiogjgohbbllaaGreatDoor
namespace Go.Or
open Go Go.Ab
theorem N4 {α : Type} {L : List α} {i : Nat} {e e' : α} (h : L[i]? = some e) : L = L.take i ++ e :: L.drop (i + 1) ∧ L.set i e' = L.take i ++ e' :: L.drop (i + 1) := by
  obtain ⟨h1,h2⟩ := aA.1 h;refine ⟨?_,by rw [List.set_eq_take_append_cons_drop,if_pos h1]⟩
  conv => lhs;rw [← bU i L,aS h1,h2]
theorem iY.upd {H H' : Hp} {pb po : Nat} {L : OL} (h : iY H pb po L) {i : Nat} {e : Od × AV × List Nat} (hi : L[i]? = some e) (o' : Od) (x' : AV) (B : List Nat)
    (hpb : H'[pb]? = H[pb]?) (hpo : H'[po]? = some (.arr ((L.map fun e => iU e.1 e.2.1).set i (iU o' x')) 4)) (hk : ∀ k,k < H.length → k ≠ po → k ∉ e.2.2 → H'[k]? = H[k]?)
    (hn : kB H' x' o'.tk B) (hB : ∀ k,k ∈ B → k ∈ e.2.2 ∨ H.length ≤ k) (hBn : B.Nodup) : iY H' pb po (L.set i (o',x',B)) := by
  obtain ⟨s1,s2⟩ := N4 (e' := (o',x',B)) hi;have hnd := h.nd;have hlt := h.lt;have hfe : L.flatMap (·.2.2) = (L.take i).flatMap (·.2.2) ++ (e.2.2 ++ (L.drop (i + 1)).flatMap (·.2.2)) := by
    conv => lhs;rw [s1]
    rw [fE,fI]
  have hfs : (L.set i (o',x',B)).flatMap (·.2.2) = (L.take i).flatMap (·.2.2) ++ (B ++ (L.drop (i + 1)).flatMap (·.2.2)) := by
    rw [s2,fE,fI]
  have hmem : ∀ k,k ∈ L.flatMap (·.2.2) → k ∈ wD pb po L := fun k hk => aF _ (aF _ hk);simp only [aN,aQ,not_or] at hnd;obtain ⟨⟨n1,n2⟩,n3,n4⟩ := hnd;rw [hfe] at n2 n3 n4 hmem;generalize hF1 : (L.take i).flatMap (·.2.2) = F1 at *;generalize hF2 : (L.drop (i + 1)).flatMap (·.2.2) = F2 at *;have n4' := n4;rw [dY] at n4;obtain ⟨m1,m2,m3⟩ := n4;rw [dY] at m2;obtain ⟨m4,m5,m6⟩ := m2;have hF : ∀ k,k ∈ F1 ∨ k ∈ F2 → k < H.length ∧ k ∉ e.2.2 ∧ k ≠ po ∧ k ≠ pb := fun k hq => by
    have hq2 : k ∈ F1 ++ (e.2.2 ++ F2) := by rcases hq with hq | hq <;> simp [hq]
    refine ⟨hlt k (hmem k hq2),fun he => ?_,fun e1 => n3 (e1 ▸ hq2),fun e1 => n2 (e1 ▸ hq2)⟩;rcases hq with hq | hq
    · exact m3 k hq k (nU _ he) rfl
    · exact m6 k he k hq rfl
  have hpoe : po ∉ e.2.2 ∧ pb ∉ e.2.2 := ⟨fun he => n3 (by simp [he]),fun he => n2 (by simp [he])⟩
  have hpol := hlt po (by simp)
  have hpbl := hlt pb (by simp)
  refine ⟨by rw [hpb,h.b,eC],by rw [hpo,oF],fun f hf => ?_,?_⟩
  · obtain ⟨j,hj⟩ := bR.1 hf;rw [bT] at hj;split at hj
    · split at hj
      · cases hj;exact hn
      · cases hj
    · rename_i hne;have hfL := aH hj;refine (h.n f hfL).frame fun k hkf => ?_
      have hkF : k ∈ F1 ∨ k ∈ F2 := by
        rcases fY j i with hji | hji
        · left;rw [← hF1];exact dK.2 ⟨f,aH (i := j) (by rw [bG,if_pos hji];exact hj),hkf⟩
        · right;rw [← hF2];exact dK.2 ⟨f,aH (i := j - (i + 1)) (by rw [dJ,show i + 1 + (j - (i + 1)) = j by omega];exact hj),hkf⟩
      obtain ⟨a1,a2,a3,_⟩ := hF k hkF;exact hk k a1 a3 a2
  · rw [hfs];have hBF : ∀ k,k ∈ B → k ∉ F1 ∧ k ∉ F2 ∧ k ≠ po ∧ k ≠ pb := fun k hkB => by
      rcases hB k hkB with hk | hk
      · refine ⟨fun h1 => (hF k (.inl h1)).2.1 hk,fun h1 => (hF k (.inr h1)).2.1 hk,fun e1 => hpoe.1 (e1 ▸ hk),fun e1 => hpoe.2 (e1 ▸ hk)⟩
      · refine ⟨fun h1 => ?_,fun h1 => ?_,by omega,by omega⟩
        · have := (hF k (.inl h1)).1;omega
        · have := (hF k (.inr h1)).1;omega
    simp only [aN,aQ,not_or,bD];refine ⟨⟨n1,fun h1 => n2 (by simp [h1]),fun h1 => (hBF pb h1).2.2.2 rfl,fun h1 => n2 (by simp [h1])⟩,⟨fun h1 => n3 (by simp [h1]),fun h1 => (hBF po h1).2.2.1 rfl,fun h1 => n3 (by simp [h1])⟩,?_⟩
    rw [dY];refine ⟨m1,?_,fun a ha b hb e1 => ?_⟩
    · rw [dY];exact ⟨hBn,m5,fun a ha b hb e1 => (hBF a ha).2.1 (e1 ▸ hb)⟩
    · subst e1;rcases bD.1 hb with hb | hb
      · exact (hBF a hb).1 ha
      · exact m3 a ha a (Y7 _ hb) rfl
theorem iY.fr {H H' : Hp} {pb po : Nat} {L : OL} (h : iY H pb po L) {i : Nat} {e : Od × AV × List Nat} (hi : L[i]? = some e) {o' : Od} {x' : AV} {B : List Nat} (hle : H.length ≤ H'.length) (hpb : H'[pb]? = H[pb]?)
    (hk : ∀ k,k < H.length → k ≠ po → k ∉ e.2.2 → H'[k]? = H[k]?) (hB : ∀ k,k ∈ B → k ∈ e.2.2 ∨ H.length ≤ k) : Fr H (wD pb po L) H' (wD pb po (L.set i (o',x',B))) := by
  obtain ⟨s1,s2⟩ := N4 (e' := (o',x',B)) hi;have he := aH hi;refine ⟨hle,fun k hkl hkA => ?_,fun k hkA => ?_⟩
  · refine hk k hkl (fun e1 => hkA (by subst e1;simp)) fun h1 => hkA ?_
    exact aF _ (aF _ (dK.2 ⟨e,he,h1⟩))
  · rcases aQ.1 hkA with rfl | hkA
    · exact .inl (by simp)
    rcases aQ.1 hkA with rfl | hkA
    · exact .inl (by simp)
    obtain ⟨f,hf,hkf⟩ := dK.1 hkA;rcases rV hf with rfl | hf
    · rcases hB k hkf with h1 | h1
      · exact .inl (aF _ (aF _ (dK.2 ⟨e,he,h1⟩)))
      · exact .inr h1
    · exact .inl (aF _ (aF _ (dK.2 ⟨f,hf,hkf⟩)))
theorem iY.add {H H' : Hp} {pb po po' : Nat} {L : OL} (h : iY H pb po L) (o' : Od) (ho : o'.tk = []) (hpo' : H.length ≤ po')
    (hpb : H'[pb]? = some (.cells [.sl po' 0 (L.length + 1) 4])) (hpo : H'[po']? = some (.arr ((L.map fun e => iU e.1 e.2.1) ++ [iU o' .nils]) 4)) (hk : ∀ k,k < H.length → k ≠ po → k ≠ pb → H'[k]? = H[k]?) : iY H' pb po' (L ++ [(o',.nils,[])]) := by
  have hnd := h.nd;have hlt := h.lt;simp only [aN,aQ,not_or] at hnd;obtain ⟨⟨n1,n2⟩,n3,n4⟩ := hnd;have hpbl := hlt pb (by simp)
  have hfl : ∀ k,k ∈ L.flatMap (·.2.2) → k < H.length := fun k hk => hlt k (aF _ (aF _ hk));refine ⟨by rw [hpb,aC,bE],by rw [hpo];simp,fun f hf => ?_,?_⟩
  · rcases bD.1 hf with hf | hf
    · refine (h.n f hf).frame fun k hkf => ?_
      have hm : k ∈ L.flatMap (·.2.2) := dK.2 ⟨f,hf,hkf⟩;exact hk k (hfl k hm) (fun e1 => n3 (e1 ▸ hm)) (fun e1 => n2 (e1 ▸ hm))
    · rw [bL.1 hf];exact .inl ⟨rfl,ho,rfl⟩
  · rw [fE];simp only [fI,jP,List.append_nil,aN,aQ,not_or];exact ⟨⟨by omega,n2⟩,fun hm => by have := hfl _ hm;omega,n4⟩
theorem iY.addFr {H H' : Hp} {pb po po' : Nat} {L : OL} (h : iY H pb po L) {o' : Od} (hle : H.length ≤ H'.length) (hpo' : H.length ≤ po') (hk : ∀ k,k < H.length → k ≠ po → k ≠ pb → H'[k]? = H[k]?) : Fr H (wD pb po L) H' (wD pb po' (L ++ [(o',.nils,[])])) := by
  refine ⟨hle,fun k hkl hkA => ?_,fun k hkA => ?_⟩
  · exact hk k hkl (fun e1 => hkA (by subst e1;simp)) (fun e1 => hkA (by subst e1;simp))
  · rcases aQ.1 hkA with rfl | hkA
    · exact .inl (by simp)
    rcases aQ.1 hkA with rfl | hkA
    · exact .inr hpo'
    rw [fE] at hkA;simp only [fI,jP,List.append_nil] at hkA;exact .inl (aF _ (aF _ hkA))
theorem LD {L : OL} {i : Nat} {e : Od × AV × List Nat} (h : L[i]? = some e) : (L.map fun e => iU e.1 e.2.1)[i]? = some (iU e.1 e.2.1) := by rw [aR,h];rfl
theorem xK {L : OL} {j : Int} {e : Od × AV × List Nat} (h : L[j.toNat]? = some e) : (L.map fun e => iU e.1 e.2.1)[0 + j.toNat]? = some (iU e.1 e.2.1) := by rw [Nat.zero_add];exact LD h
theorem G8 {L : OL} {i : Nat} (h : i < L.length) : ∃ e,L[i]? = some e ∧ (L.map (·.1)).getD i iD = e.1 := by
  refine ⟨L[i],aB h,?_⟩;rw [aD,aR,aB h];rfl
theorem U1 {L : OL} {i : Nat} {o' : Od} {x' : AV} {B : List Nat} : (L.set i (o',x',B)).map (·.1) = (L.map (·.1)).set i o' := by rw [oF]
theorem iY.more {H H' : Hp} {pb po : Nat} {L : OL} (h : iY H pb po L) (hk : ∀ k,k < H.length → H'[k]? = H[k]?) : iY H' pb po L := h.frame fun k hkA => hk k (h.lt k hkA)
theorem iJ {H Z : Hp} {k : Nat} (hk : k < H.length) : (H ++ Z)[k]? = H[k]? := by rw [aG hk]
theorem eL {H : Hp} {k q : Nat} {x : AB} (hk : k ≠ q) : (H.set q x)[k]? = H[k]? := by rw [gE (Ne.symm hk)]
end Go.Or
