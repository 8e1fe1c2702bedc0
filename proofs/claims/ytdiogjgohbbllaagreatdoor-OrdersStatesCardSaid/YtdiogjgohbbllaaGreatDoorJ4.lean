/-
  Texts of the logic and of the layer,in one module (part 4).
-/
import Derived.Test.YtdiogjgohbbllaaGreatDoorJ3
import Derived.Test.YtdiogjgohbbllaaGreatDoorRows
import Derived.KernelRfl
import Derived.Shelf.Lay
import Derived.Shelf.Strings.Builder1
import Derived.Shelf.Strconv.Itoa4
import Derived.Ground.NamesProg
set_option linter.unusedVariables false
set_option linter.unusedSimpArgs false
set_option linter.unnecessarySimpa false
namespace Go.Proofs.YtdiogjgohbbllaaGreatDoor
open Go Go.Ab
def XB : List (Nat × TI) := [(1,⟨false,1,8,[.nilFunc]⟩),
  (2,⟨false,1,8,[.int .i64 0]⟩),
  (3,⟨false,1,8,[.int .i64 0]⟩),
  (4,⟨false,1,1,[.bool false]⟩),
  (5,⟨false,1,1,[.int .u8 0]⟩),
  (6,⟨false,1,1,[.int .u8 0]⟩),
  (7,⟨true,4,24,[.int .i64 0,.int .i64 0,.bool false,.int .u8 0]⟩),
  (8,⟨true,4,24,[.int .i64 0,.int .i64 0,.bool false,.int .u8 0]⟩),
  (9,⟨false,1,16,[.string ⟨#[]⟩]⟩),
  (10,⟨false,1,16,[.string ⟨#[]⟩]⟩),
  (11,⟨false,1,16,[.string ⟨#[]⟩]⟩),
  (12,⟨false,1,8,[.int .u64 0]⟩),
  (13,⟨true,2,24,[.string ⟨#[]⟩,.int .u64 0]⟩),
  (14,⟨true,2,24,[.string ⟨#[]⟩,.int .u64 0]⟩),
  (15,⟨false,1,8,[.pointer none]⟩),
  (16,⟨false,1,8,[.pointer none]⟩),
  (17,⟨false,1,8,[.pointer none]⟩),
  (18,⟨true,1,8,[.pointer none]⟩),
  (19,⟨true,1,8,[.pointer none]⟩),
  (21,⟨false,1,4,[.int .i32 0]⟩),
  (22,⟨false,1,24,[.slice none 0 0]⟩),
  (23,⟨false,1,24,[.slice none 0 0]⟩),
  (24,⟨false,1,24,[.slice none 0 0]⟩),
  (25,⟨false,1,8,[.nilFunc]⟩),
  (26,⟨false,1,8,[.nilFunc]⟩),
  (27,⟨false,1,8,[.nilFunc]⟩),
  (28,⟨false,1,8,[.pointer none]⟩),
  (29,⟨false,1,8,[.nilFunc]⟩),
  (30,⟨false,1,8,[.int .i64 0]⟩),
  (32,⟨false,1,8,[.nilFunc]⟩),
  (33,⟨false,1,24,[.slice none 0 0]⟩),
  (34,⟨true,6,64,[.int .i64 0,.int .i64 0,.int .i64 0,.int .i64 0,.int .i64 0,.slice none 0 0]⟩),
  (35,⟨true,6,64,[.int .i64 0,.int .i64 0,.int .i64 0,.int .i64 0,.int .i64 0,.slice none 0 0]⟩),
  (36,⟨false,1,8,[.nilFunc]⟩),
  (37,⟨true,3,40,[.slice none 0 0,.int .i64 0,.int .i64 0]⟩),
  (38,⟨true,3,40,[.slice none 0 0,.int .i64 0,.int .i64 0]⟩),
  (40,⟨false,1,8,[.nilFunc]⟩),
  (41,⟨false,1,24,[.slice none 0 0]⟩),
  (42,⟨false,1,8,[.nilFunc]⟩),
  (43,⟨false,1,8,[.nilFunc]⟩),
  (44,⟨false,1,8,[.nilFunc]⟩),
  (45,⟨false,1,8,[.nilFunc]⟩),
  (47,⟨false,1,8,[.nilFunc]⟩),
  (48,⟨false,1,8,[.nilFunc]⟩),
  (50,⟨false,1,8,[.nilFunc]⟩),
  (51,⟨false,1,8,[.nilFunc]⟩),
  (52,⟨false,1,8,[.nilFunc]⟩),
  (53,⟨false,1,24,[.slice none 0 0]⟩),
  (55,⟨false,1,8,[.nilFunc]⟩),
  (56,⟨false,1,8,[.nilFunc]⟩),
  (57,⟨false,1,8,[.nilFunc]⟩),
  (58,⟨false,1,8,[.nilFunc]⟩),
  (59,⟨true,3,24,[.int .i64 0,.int .i64 0,.int .i64 0]⟩),
  (60,⟨true,3,24,[.int .i64 0,.int .i64 0,.int .i64 0]⟩),
  (61,⟨false,1,8,[.nilFunc]⟩),
  (62,⟨false,1,24,[.slice none 0 0]⟩),
  (63,⟨false,1,8,[.nilFunc]⟩),
  (64,⟨false,1,8,[.nilFunc]⟩),
  (65,⟨true,2,16,[.int .i64 0,.int .i64 0]⟩),
  (66,⟨true,2,16,[.int .i64 0,.int .i64 0]⟩),
  (67,⟨false,1,8,[.pointer none]⟩),
  (68,⟨false,1,8,[.nilFunc]⟩),
  (69,⟨false,1,8,[.nilFunc]⟩),
  (70,⟨false,1,24,[.slice none 0 0]⟩),
  (71,⟨true,1,24,[.slice none 0 0]⟩),
  (72,⟨true,1,24,[.slice none 0 0]⟩),
  (73,⟨false,1,8,[.nilFunc]⟩),
  (74,⟨true,4,64,[.slice none 0 0,.int .i64 0,.int .i64 0,.slice none 0 0]⟩),
  (75,⟨true,4,64,[.slice none 0 0,.int .i64 0,.int .i64 0,.slice none 0 0]⟩),
  (76,⟨false,1,8,[.nilFunc]⟩),
  (77,⟨false,1,8,[.nilFunc]⟩),
  (79,⟨false,1,8,[.nilFunc]⟩),
  (81,⟨false,1,8,[.nilFunc]⟩),
  (82,⟨false,1,8,[.nilFunc]⟩),
  (83,⟨true,3,24,[.int .i64 0,.int .i64 0,.bool false]⟩),
  (84,⟨true,3,24,[.int .i64 0,.int .i64 0,.bool false]⟩),
  (86,⟨true,2,24,[.string ⟨#[]⟩,.int .i64 0]⟩),
  (87,⟨true,2,24,[.string ⟨#[]⟩,.int .i64 0]⟩),
  (88,⟨false,1,24,[.slice none 0 0]⟩),
  (89,⟨false,1,8,[.nilFunc]⟩),
  (90,⟨false,1,8,[.nilFunc]⟩),
  (91,⟨false,1,24,[.slice none 0 0]⟩),
  (92,⟨true,1,24,[.slice none 0 0]⟩),
  (93,⟨true,1,24,[.slice none 0 0]⟩),
  (95,⟨true,4,64,[.slice none 0 0,.int .i64 0,.int .i64 0,.slice none 0 0]⟩),
  (96,⟨true,4,64,[.slice none 0 0,.int .i64 0,.int .i64 0,.slice none 0 0]⟩),
  (97,⟨false,1,8,[.pointer none]⟩),
  (98,⟨false,1,8,[.nilFunc]⟩),
  (99,⟨true,3,24,[.int .i64 0,.int .i64 0,.int .i64 0]⟩),
  (100,⟨true,3,24,[.int .i64 0,.int .i64 0,.int .i64 0]⟩),
  (101,⟨false,1,8,[.nilFunc]⟩),
  (102,⟨false,1,8,[.nilFunc]⟩),
  (103,⟨false,1,8,[.map none]⟩),
  (104,⟨false,1,8,[.nilFunc]⟩),
  (105,⟨false,1,8,[.nilFunc]⟩),
  (106,⟨false,1,8,[.nilFunc]⟩),
  (107,⟨false,1,8,[.nilFunc]⟩),
  (109,⟨false,1,8,[.nilFunc]⟩),
  (112,⟨false,1,8,[.nilFunc]⟩),
  (115,⟨false,1,8,[.nilFunc]⟩),
  (116,⟨false,1,8,[.nilFunc]⟩),
  (117,⟨false,1,8,[.pointer none]⟩),
  (118,⟨false,1,8,[.nilFunc]⟩),
  (119,⟨false,1,8,[.nilFunc]⟩),
  (120,⟨false,1,8,[.pointer none]⟩),
  (121,⟨false,1,24,[.slice none 0 0]⟩),
  (122,⟨true,2,32,[.pointer none,.slice none 0 0]⟩),
  (123,⟨true,2,32,[.pointer none,.slice none 0 0]⟩),
  (127,⟨false,1,8,[.nilFunc]⟩),
  (128,⟨false,1,8,[.nilFunc]⟩),
  (129,⟨false,1,8,[.nilFunc]⟩),
  (130,⟨false,1,8,[.pointer none]⟩),
  (133,⟨false,1,8,[.nilFunc]⟩),
  (134,⟨false,1,8,[.pointer none]⟩),
  (135,⟨false,1,8,[.nilFunc]⟩),
  (140,⟨false,1,8,[.nilFunc]⟩),
  (142,⟨false,1,8,[.nilFunc]⟩),
  (143,⟨false,1,8,[.nilFunc]⟩),
  (144,⟨false,1,8,[.nilFunc]⟩),
  (145,⟨false,1,8,[.nilFunc]⟩),
  (146,⟨false,1,8,[.nilFunc]⟩),
  (148,⟨false,1,8,[.nilFunc]⟩),
  (149,⟨false,1,8,[.nilFunc]⟩),
  (150,⟨false,1,8,[.nilFunc]⟩),
  (151,⟨false,1,8,[.pointer none]⟩),
  (152,⟨true,2,24,[.string ⟨#[]⟩,.bool false]⟩),
  (153,⟨true,2,24,[.string ⟨#[]⟩,.bool false]⟩),
  (155,⟨true,2,24,[.string ⟨#[]⟩,.bool false]⟩),
  (156,⟨true,2,24,[.string ⟨#[]⟩,.bool false]⟩),
  (157,⟨false,1,8,[.nilFunc]⟩),
  (158,⟨false,1,8,[.map none]⟩),
  (162,⟨false,1,8,[.nilFunc]⟩),
  (164,⟨false,1,8,[.nilFunc]⟩),
  (165,⟨false,1,8,[.nilFunc]⟩),
  (169,⟨false,1,8,[.nilFunc]⟩),
  (170,⟨false,1,8,[.nilFunc]⟩),
  (171,⟨false,1,8,[.nilFunc]⟩),
  (179,⟨false,1,8,[.int .i64 0]⟩),
  (187,⟨false,1,4,[.int .u32 0]⟩),
  (193,⟨true,3,48,[.string ⟨#[]⟩,.string ⟨#[]⟩,.nilIface]⟩),
  (194,⟨true,3,48,[.string ⟨#[]⟩,.string ⟨#[]⟩,.nilIface]⟩),
  (197,⟨false,1,8,[.nilFunc]⟩),
  (199,⟨false,1,8,[.pointer none]⟩),
  (200,⟨true,1,16,[.string ⟨#[]⟩]⟩),
  (201,⟨true,1,16,[.string ⟨#[]⟩]⟩),
  (203,⟨true,64,64,[.int .u8 0,.int .u8 0,.int .u8 0,.int .u8 0,.int .u8 0,.int .u8 0,.int .u8 0,.int .u8 0,.int .u8 0,.int .u8 0,.int .u8 0,.int .u8 0,.int .u8 0,.int .u8 0,.int .u8 0,.int .u8 0,.int .u8 0,.int .u8 0,.int .u8 0,.int .u8 0,.int .u8 0,.int .u8 0,.int .u8 0,.int .u8 0,.int .u8 0,.int .u8 0,.int .u8 0,.int .u8 0,.int .u8 0,.int .u8 0,.int .u8 0,.int .u8 0,.int .u8 0,.int .u8 0,.int .u8 0,.int .u8 0,.int .u8 0,.int .u8 0,.int .u8 0,.int .u8 0,.int .u8 0,.int .u8 0,.int .u8 0,.int .u8 0,.int .u8 0,.int .u8 0,.int .u8 0,.int .u8 0,.int .u8 0,.int .u8 0,.int .u8 0,.int .u8 0,.int .u8 0,.int .u8 0,.int .u8 0,.int .u8 0,.int .u8 0,.int .u8 0,.int .u8 0,.int .u8 0,.int .u8 0,.int .u8 0,.int .u8 0,.int .u8 0]⟩),
  (204,⟨true,4,40,[.pointer none,.pointer none,.pointer none,.string ⟨#[]⟩]⟩),
  (205,⟨true,4,40,[.pointer none,.pointer none,.pointer none,.string ⟨#[]⟩]⟩),
  (209,⟨false,1,1,[.int .u8 0]⟩),
  (210,⟨false,1,1,[.int .u8 0]⟩),
  (211,⟨false,1,8,[.nilFunc]⟩),
  (212,⟨false,1,4,[.int .i32 0]⟩),
  (213,⟨false,1,4,[.int .i32 0]⟩),
  (214,⟨true,11,48,[.int .u64 0,.int .u64 0,.int .u32 0,.int .u8 0,.int .u8 0,.int .u8 0,.int .u8 0,.nilFunc,.pointer none,.int .i32 0,.int .i32 0]⟩),
  (215,⟨true,11,48,[.int .u64 0,.int .u64 0,.int .u32 0,.int .u8 0,.int .u8 0,.int .u8 0,.int .u8 0,.nilFunc,.pointer none,.int .i32 0,.int .i32 0]⟩)]
set_option maxRecDepth 8000 in
theorem RO : CF (fun t i => ∃ inf z,Tryz.prog.info? t = some inf ∧ inf.size = i.size ∧ inf.bytes = i.bytes ∧ inf.zero = some z ∧ z.cells.toList = i.zero ∧ i.zero.length = i.size ∧ U8 Tryz.prog t = some i.agg) XB :=
  ⟨tq (.nilFunc),tq (.int .i64 0),tq (.int .i64 0),tq (.bool false),tq (.int .u8 0),tq (.int .u8 0),tq (.agg #[.int .i64 0,.int .i64 0,.bool false,.int .u8 0]),tq (.agg #[.int .i64 0,.int .i64 0,.bool false,.int .u8 0]),tq (.string ⟨#[]⟩),tq (.string ⟨#[]⟩),tq (.string ⟨#[]⟩),tq (.int .u64 0),tq (.agg #[.string ⟨#[]⟩,.int .u64 0]),tq (.agg #[.string ⟨#[]⟩,.int .u64 0]),tq (.pointer none),tq (.pointer none),tq (.pointer none),tq (.agg #[.pointer none]),tq (.agg #[.pointer none]),tq (.int .i32 0),tq (.slice none 0 0),tq (.slice none 0 0),tq (.slice none 0 0),tq (.nilFunc),tq (.nilFunc),tq (.nilFunc),tq (.pointer none),tq (.nilFunc),tq (.int .i64 0),tq (.nilFunc),tq (.slice none 0 0),tq (.agg #[.int .i64 0,.int .i64 0,.int .i64 0,.int .i64 0,.int .i64 0,.slice none 0 0]),tq (.agg #[.int .i64 0,.int .i64 0,.int .i64 0,.int .i64 0,.int .i64 0,.slice none 0 0]),tq (.nilFunc),tq (.agg #[.slice none 0 0,.int .i64 0,.int .i64 0]),tq (.agg #[.slice none 0 0,.int .i64 0,.int .i64 0]),tq (.nilFunc),tq (.slice none 0 0),tq (.nilFunc),tq (.nilFunc),tq (.nilFunc),tq (.nilFunc),tq (.nilFunc),tq (.nilFunc),tq (.nilFunc),tq (.nilFunc),tq (.nilFunc),tq (.slice none 0 0),tq (.nilFunc),tq (.nilFunc),tq (.nilFunc),tq (.nilFunc),tq (.agg #[.int .i64 0,.int .i64 0,.int .i64 0]),tq (.agg #[.int .i64 0,.int .i64 0,.int .i64 0]),tq (.nilFunc),tq (.slice none 0 0),tq (.nilFunc),tq (.nilFunc),tq (.agg #[.int .i64 0,.int .i64 0]),tq (.agg #[.int .i64 0,.int .i64 0]),tq (.pointer none),tq (.nilFunc),tq (.nilFunc),tq (.slice none 0 0),tq (.agg #[.slice none 0 0]),tq (.agg #[.slice none 0 0]),tq (.nilFunc),tq (.agg #[.slice none 0 0,.int .i64 0,.int .i64 0,.slice none 0 0]),tq (.agg #[.slice none 0 0,.int .i64 0,.int .i64 0,.slice none 0 0]),tq (.nilFunc),tq (.nilFunc),tq (.nilFunc),tq (.nilFunc),tq (.nilFunc),tq (.agg #[.int .i64 0,.int .i64 0,.bool false]),tq (.agg #[.int .i64 0,.int .i64 0,.bool false]),tq (.agg #[.string ⟨#[]⟩,.int .i64 0]),tq (.agg #[.string ⟨#[]⟩,.int .i64 0]),tq (.slice none 0 0),tq (.nilFunc),tq (.nilFunc),tq (.slice none 0 0),tq (.agg #[.slice none 0 0]),tq (.agg #[.slice none 0 0]),tq (.agg #[.slice none 0 0,.int .i64 0,.int .i64 0,.slice none 0 0]),tq (.agg #[.slice none 0 0,.int .i64 0,.int .i64 0,.slice none 0 0]),tq (.pointer none),tq (.nilFunc),tq (.agg #[.int .i64 0,.int .i64 0,.int .i64 0]),tq (.agg #[.int .i64 0,.int .i64 0,.int .i64 0]),tq (.nilFunc),tq (.nilFunc),tq (.map none),tq (.nilFunc),tq (.nilFunc),tq (.nilFunc),tq (.nilFunc),tq (.nilFunc),tq (.nilFunc),tq (.nilFunc),tq (.nilFunc),tq (.pointer none),tq (.nilFunc),tq (.nilFunc),tq (.pointer none),tq (.slice none 0 0),tq (.agg #[.pointer none,.slice none 0 0]),tq (.agg #[.pointer none,.slice none 0 0]),tq (.nilFunc),tq (.nilFunc),tq (.nilFunc),tq (.pointer none),tq (.nilFunc),tq (.pointer none),tq (.nilFunc),tq (.nilFunc),tq (.nilFunc),tq (.nilFunc),tq (.nilFunc),tq (.nilFunc),tq (.nilFunc),tq (.nilFunc),tq (.nilFunc),tq (.nilFunc),tq (.pointer none),tq (.agg #[.string ⟨#[]⟩,.bool false]),tq (.agg #[.string ⟨#[]⟩,.bool false]),tq (.agg #[.string ⟨#[]⟩,.bool false]),tq (.agg #[.string ⟨#[]⟩,.bool false]),tq (.nilFunc),tq (.map none),tq (.nilFunc),tq (.nilFunc),tq (.nilFunc),tq (.nilFunc),tq (.nilFunc),tq (.nilFunc),tq (.int .i64 0),tq (.int .u32 0),tq (.agg #[.string ⟨#[]⟩,.string ⟨#[]⟩,.nilIface]),tq (.agg #[.string ⟨#[]⟩,.string ⟨#[]⟩,.nilIface]),tq (.nilFunc),tq (.pointer none),tq (.agg #[.string ⟨#[]⟩]),tq (.agg #[.string ⟨#[]⟩]),tq (.agg #[.int .u8 0,.int .u8 0,.int .u8 0,.int .u8 0,.int .u8 0,.int .u8 0,.int .u8 0,.int .u8 0,.int .u8 0,.int .u8 0,.int .u8 0,.int .u8 0,.int .u8 0,.int .u8 0,.int .u8 0,.int .u8 0,.int .u8 0,.int .u8 0,.int .u8 0,.int .u8 0,.int .u8 0,.int .u8 0,.int .u8 0,.int .u8 0,.int .u8 0,.int .u8 0,.int .u8 0,.int .u8 0,.int .u8 0,.int .u8 0,.int .u8 0,.int .u8 0,.int .u8 0,.int .u8 0,.int .u8 0,.int .u8 0,.int .u8 0,.int .u8 0,.int .u8 0,.int .u8 0,.int .u8 0,.int .u8 0,.int .u8 0,.int .u8 0,.int .u8 0,.int .u8 0,.int .u8 0,.int .u8 0,.int .u8 0,.int .u8 0,.int .u8 0,.int .u8 0,.int .u8 0,.int .u8 0,.int .u8 0,.int .u8 0,.int .u8 0,.int .u8 0,.int .u8 0,.int .u8 0,.int .u8 0,.int .u8 0,.int .u8 0,.int .u8 0]),tq (.agg #[.pointer none,.pointer none,.pointer none,.string ⟨#[]⟩]),tq (.agg #[.pointer none,.pointer none,.pointer none,.string ⟨#[]⟩]),tq (.int .u8 0),tq (.int .u8 0),tq (.nilFunc),tq (.int .i32 0),tq (.int .i32 0),tq (.agg #[.int .u64 0,.int .u64 0,.int .u32 0,.int .u8 0,.int .u8 0,.int .u8 0,.int .u8 0,.nilFunc,.pointer none,.int .i32 0,.int .i32 0]),tq (.agg #[.int .u64 0,.int .u64 0,.int .u32 0,.int .u8 0,.int .u8 0,.int .u8 0,.int .u8 0,.nilFunc,.pointer none,.int .i32 0,.int .i32 0]),
   trivial⟩
def RA : List (Nat × Nat) := [(22,84),(23,60),(24,35),(33,100),(41,53),(53,66),(62,3),(70,75),(88,87),(91,96),(121,5)]
theorem LV : CF (fun t e => Tryz.prog.underlying t = some (.slice e)) RA := ⟨kq,kq,kq,kq,kq,kq,kq,kq,kq,kq,kq,trivial⟩
def VR : List (Nat × (Nat × Nat)) := [(203,(64,5)),(206,(0,16))]
theorem QA : CF (fun t p => Tryz.prog.underlying t = some (.array p.1 p.2)) VR := ⟨kq,kq,trivial⟩
def EV : List (Nat × List (Nat × Nat)) := [(7,[(0,1),(1,1),(2,1),(3,1)]),(8,[(0,1),(1,1),(2,1),(3,1)]),(13,[(0,1),(1,1)]),(14,[(0,1),(1,1)]),(18,[(0,1)]),(19,[(0,1)]),(34,[(0,1),(1,1),(2,1),(3,1),(4,1),(5,1)]),(35,[(0,1),(1,1),(2,1),(3,1),(4,1),(5,1)]),(37,[(0,1),(1,1),(2,1)]),(38,[(0,1),(1,1),(2,1)]),(59,[(0,1),(1,1),(2,1)]),(60,[(0,1),(1,1),(2,1)]),(65,[(0,1),(1,1)]),(66,[(0,1),(1,1)]),(71,[(0,1)]),(72,[(0,1)]),(74,[(0,3),(3,1)]),(75,[(0,3),(3,1)]),(83,[(0,1),(1,1),(2,1)]),(84,[(0,1),(1,1),(2,1)]),(86,[(0,1),(1,1)]),(87,[(0,1),(1,1)]),(92,[(0,1)]),(93,[(0,1)]),(95,[(0,3),(3,1)]),(96,[(0,3),(3,1)]),(99,[(0,1),(1,1),(2,1)]),(100,[(0,1),(1,1),(2,1)]),(122,[(0,1),(1,1)]),(123,[(0,1),(1,1)]),(152,[(0,1),(1,1)]),(153,[(0,1),(1,1)]),(155,[(0,1),(1,1)]),(156,[(0,1),(1,1)]),(193,[(0,1),(1,1),(2,1)]),(194,[(0,1),(1,1),(2,1)]),(200,[(0,1)]),(201,[(0,1)]),(204,[(0,1),(1,1),(2,1),(3,1)]),(205,[(0,1),(1,1),(2,1),(3,1)]),(207,[(0,0)]),(208,[(0,0)]),(214,[(0,1),(1,1),(2,1),(3,1),(4,1),(5,1),(6,1),(7,1),(8,1),(9,1),(10,1)]),(215,[(0,1),(1,1),(2,1),(3,1),(4,1),(5,1),(6,1),(7,1),(8,1),(9,1),(10,1)])]
theorem DG : CF (fun t l => R2 Tryz.prog t = some l) EV := ⟨kq,kq,kq,kq,kq,kq,kq,kq,kq,kq,kq,kq,kq,kq,kq,kq,kq,kq,kq,kq,kq,kq,kq,kq,kq,kq,kq,kq,kq,kq,kq,kq,kq,kq,kq,kq,kq,kq,kq,kq,kq,kq,kq,kq,trivial⟩
def LR : List ((Nat × Nat) × Nat) := [((7,0),0),((7,1),1),((7,2),2),((7,3),3),((8,0),0),((8,1),1),((8,2),2),((8,3),3),((13,0),0),((13,1),1),((14,0),0),((14,1),1),((18,0),0),((19,0),0),((34,0),0),((34,1),1),((34,2),2),((34,3),3),((34,4),4),((34,5),5),((35,0),0),((35,1),1),((35,2),2),((35,3),3),((35,4),4),((35,5),5),((37,0),0),((37,1),1),((37,2),2),((38,0),0),((38,1),1),((38,2),2),((59,0),0),((59,1),1),((59,2),2),((60,0),0),((60,1),1),((60,2),2),((65,0),0),((65,1),1),((66,0),0),((66,1),1),((71,0),0),((72,0),0),((74,0),0),((74,1),3),((75,0),0),((75,1),3),((83,0),0),((83,1),1),((83,2),2),((84,0),0),((84,1),1),((84,2),2),((86,0),0),((86,1),1),((87,0),0),((87,1),1),((92,0),0),((93,0),0),((95,0),0),((95,1),3),((96,0),0),((96,1),3),((99,0),0),((99,1),1),((99,2),2),((100,0),0),((100,1),1),((100,2),2),((122,0),0),((122,1),1),((123,0),0),((123,1),1),((152,0),0),((152,1),1),((153,0),0),((153,1),1),((155,0),0),((155,1),1),((156,0),0),((156,1),1),((193,0),0),((193,1),1),((193,2),2),((194,0),0),((194,1),1),((194,2),2),((200,0),0),((201,0),0),((204,0),0),((204,1),1),((204,2),2),((204,3),3),((205,0),0),((205,1),1),((205,2),2),((205,3),3),((214,0),0),((214,1),1),((214,2),2),((214,3),3),((214,4),4),((214,5),5),((214,6),6),((214,7),7),((214,8),8),((214,9),9),((214,10),10),((215,0),0),((215,1),1),((215,2),2),((215,3),3),((215,4),4),((215,5),5),((215,6),6),((215,7),7),((215,8),8),((215,9),9),((215,10),10)]
theorem HQ : CF (fun (tf : Nat × Nat) o => ∃ fs fd inf,Tryz.prog.underlying tf.1 = some (.struct fs) ∧ fs[tf.2]? = some fd ∧ fd.offset = o ∧ Tryz.prog.info? fd.type = some inf ∧ inf.size ≠ 0) LR :=
  ⟨fq,fq,fq,fq,fq,fq,fq,fq,fq,fq,fq,fq,fq,fq,fq,fq,fq,fq,fq,fq,fq,fq,fq,fq,fq,fq,fq,fq,fq,fq,fq,fq,fq,fq,fq,fq,fq,fq,fq,fq,fq,fq,fq,fq,tW (n := 2) (by kernel_rfl),fq,tW (n := 2) (by kernel_rfl),fq,fq,fq,fq,fq,fq,fq,fq,fq,fq,fq,fq,fq,tW (n := 2) (by kernel_rfl),fq,tW (n := 2) (by kernel_rfl),fq,fq,fq,fq,fq,fq,fq,fq,fq,fq,fq,fq,fq,fq,fq,fq,fq,fq,fq,fq,fq,fq,fq,fq,fq,fq,fq,fq,fq,fq,fq,fq,fq,fq,fq,fq,fq,fq,fq,fq,fq,fq,fq,fq,fq,fq,fq,fq,fq,fq,fq,fq,fq,fq,fq,fq,fq,
   trivial⟩
theorem fH : Tryz.prog.follows .mixedOrders = true := by kernel_rfl
def T : lK Tryz.prog where
  ti := F6 XB
  tiOk := fun _ _ h => tK RO h
  elem := F6 RA
  elemOk := fun _ _ h => tK LV h
  field := fun t f => R6 LR t f
  fieldOk := fun _ _ _ h => O0 HQ h
  arr := F6 VR
  arrOk := fun _ _ _ h => tK QA h
  places := F6 EV
  placesOk := fun _ _ h => tK DG h
end Go.Proofs.YtdiogjgohbbllaaGreatDoor
namespace Go.Or
open Go Go.Ab
def uS {α : Type} (p : α → Bool) : List α → Nat → Int
  | [],_ => -1
  | x :: l,k => if p x = true then k else uS p l (k + 1)
theorem FI {α : Type} {p : α → Bool} {l : List α} {k : Nat} (h : k < l.length) : uS p (l.drop k) k = if p l[k] = true then (k : Int) else uS p (l.drop (k + 1)) (k + 1) := by
  rw [aS h];rfl
theorem AN {α : Type} {p : α → Bool} {l : List α} {k : Nat} (h : l.length ≤ k) : uS p (l.drop k) k = -1 := by
  rw [dJ h];rfl
theorem AO {α : Type} (p : α → Bool) : ∀ (l : List α) (k : Nat), decide (uS p l k ≥ 0) = l.any p
  | [],k => by simp [uS]
  | x :: l,k => by
    unfold uS;split
    · rename_i h;simp [h]
    · rename_i h;rw [AO p l (k + 1)];simp [h]
theorem O4 {α : Type} (p : α → Bool) : ∀ (l : List α) (k : Nat), (uS p l k = -1 ∧ ∀ x, x ∈ l → p x = false) ∨ ∃ (j : Nat) (hj : j < l.length), uS p l k = ((k + j : Nat) : Int) ∧ p l[j] = true ∧ ∀ x, x ∈ l.take j → p x = false
  | [],k => .inl ⟨rfl,fun x hx => by cases hx⟩
  | y :: l,k => by
    unfold uS;cases hp : p y with
    | true => exact .inr ⟨0,by simp,by rw [if_pos rfl];rfl,by simpa using hp,fun x hx => by simp at hx⟩
    | false =>
      rw [if_neg (by simp)]
      rcases O4 p l (k + 1) with ⟨h1,h2⟩ | ⟨j,hj,h1,h2,h3⟩
      · refine .inl ⟨h1,fun x hx => ?_⟩
        rcases aQ.1 hx with rfl | hx
        · exact hp
        · exact h2 x hx
      · refine .inr ⟨j + 1,by simp;omega,by rw [h1];omega,by simpa using h2,fun x hx => ?_⟩
        rw [oH] at hx;rcases aQ.1 hx with rfl | hx
        · exact hp
        · exact h3 x hx
theorem sW (l : List Wt) : ∀ e,e ∈ bF l → e.length = 3 := by intro e he;obtain ⟨n,_,rfl⟩ := aJ.1 he;rfl
theorem gR (l : List Wt) : (bF l).length = l.length := bJ _
theorem RH (l : List Wt) : (bF l).flatten.all AV.one = true := by
  induction l with
  | nil => rfl
  | cons x l ih => exact ih
theorem uZ (l : List Wt) : ∀ e,e ∈ bF l → AV.idfL e = true := by intro e he;obtain ⟨x,_,rfl⟩ := aJ.1 he;rfl
theorem IP {l : List Wt} {k : Nat} (h : k < l.length) : (bF l)[(k : Int).toNat]? = some ([AV.i l[k].1,AV.i l[k].2.1,AV.i l[k].2.2]) := by simp [h]
theorem D6 (l : List Tk) : ∀ e,e ∈ eO l → e.length = 2 := by intro e he;obtain ⟨n,_,rfl⟩ := aJ.1 he;rfl
theorem qA (l : List Tk) : (eO l).length = l.length := bJ _
theorem RN (l : List Tk) : (eO l).flatten.all AV.one = true := by
  induction l with
  | nil => rfl
  | cons x l ih => exact ih
theorem nO (l : List Tk) : ∀ e,e ∈ eO l → AV.idfL e = true := by intro e he;obtain ⟨x,_,rfl⟩ := aJ.1 he;rfl
theorem CQ {l : List Tk} {k : Nat} (h : k < l.length) : (eO l)[(k : Int).toNat]? = some ([AV.i l[k].1,AV.i l[k].2]) := by simp [h]
theorem pX (l : List Bo) : ∀ e,e ∈ eY l → e.length = 3 := by intro e he;obtain ⟨n,_,rfl⟩ := aJ.1 he;rfl
theorem jG (l : List Bo) : (eY l).length = l.length := bJ _
theorem MH (l : List Bo) : (eY l).flatten.all AV.one = true := by
  induction l with
  | nil => rfl
  | cons x l ih => exact ih
theorem vS (l : List Bo) : ∀ e,e ∈ eY l → AV.idfL e = true := by intro e he;obtain ⟨x,_,rfl⟩ := aJ.1 he;rfl
theorem TO {l : List Bo} {k : Nat} (h : k < l.length) : (eY l)[(k : Int).toNat]? = some ([AV.i l[k].1,AV.i l[k].2.1,AV.i l[k].2.2]) := by simp [h]
theorem zD (l : List Lo) : ∀ e,e ∈ jE l → e.length = 3 := by intro e he;obtain ⟨n,_,rfl⟩ := aJ.1 he;rfl
theorem qM (l : List Lo) : (jE l).length = l.length := bJ _
theorem PD {l : List Lo} {k : Nat} (h : k < l.length) : (jE l)[k]? = some ([AV.i l[k].1,AV.i l[k].2.1,AV.b l[k].2.2]) := by simp [h]
theorem DH (l : List Int) : ∀ e,e ∈ gI l → e.length = 1 := by intro e he;obtain ⟨n,_,rfl⟩ := aJ.1 he;rfl
theorem uK (l : List Int) : (gI l).length = l.length := bJ _
theorem fC (l : List Int) : ∀ e,e ∈ gI l → AV.idfL e = true := by intro e he;obtain ⟨x,_,rfl⟩ := aJ.1 he;rfl
theorem DI {l : List Int} {k : Nat} (h : k < l.length) : (gI l)[(k : Int).toNat]? = some ([AV.i l[k]]) := by simp [h]
end Go.Or
namespace Go.Proofs.YtdiogjgohbbllaaGreatDoor
open Go Go.Ab Go.Or
attribute [local irreducible] VC AW bQ bN
set_option maxHeartbeats 4000000
theorem nX (l : List Nat) : ∀ i : Nat,i < 0 → l[i]? = some i := fun i h => absurd h (gX _)
theorem vU {a b : Bool} (h : a = b) : AV.b a = AV.b b := by rw [h]
theorem SR {l : List Wt} {F : FuncId} {caps : List AV} {p : Wt → Bool} (hl : l.length ≤ 1000000) (hi : AV.idfL caps = true) (hF : ∀ x,x ∈ l → bN Tryz.prog F (.agg [.i x.1,.i x.2.1,.i x.2.2] :: caps) [] (.b (p x)) []) :
    bN Tryz.prog 100 [.rowE (bF l) 3,.clo (.func F) [] caps] [] (.i (uS p l 0)) [] := by
  have hlen : (bF l).length = l.length := bJ _;refine dR T Tryz.func100 rfl rfl rfl rfl ?_
  (repeat' (first|refine wS ?_|refine wB ?_|(refine rg 0 (aV ?_))|(refine rg 1 (mW rfl (qW T rfl (mV ?_))))|refine nZ ?_));refine eZ (X := {k : Nat // k ≤ l.length ∧ uS p l 0 = uS p (l.drop k) k}) (fun k => [(0,.rowE (bF l) 3),(1,.clo (.func F) [] caps),(7,.i (bF l).length),(8,.i k.1)]) (fun _ => []) (fun k => l.length - k.1) ⟨0,by simp,rfl⟩ ⟨[],rfl,⟨rfl,by rw [fR hi];rfl,rfl,rfl,trivial⟩,trivial,bB,fun _ h => absurd h (gX _)⟩ ?_
  rintro ⟨k,hk,he⟩;dsimp only;by_cases hlt : k < l.length
  · have hc := hF l[k] (aK hlt);have hg := IP (l := l) hlt;rw [FI hlt] at he;generalize l[k] = y at *;cases hp : p y with
    | true =>
      rw [hp] at hc;rw [hp,if_pos rfl] at he
      (repeat' (first|refine wS ?_|refine wB ?_|refine wK ?_|refine wR ?_|refine wT ?_|(refine wC rfl ?_ ?_<;>(intro hb;(try simp only [nm] at hb);try (exfalso;omega)))|(refine rg 2 (vV (bC rfl rfl) ?_))|(refine rg 3 (mW rfl (aV ?_)))|(refine rg 4 (fI rfl (mW rfl (vV (ix T rfl (by omega) (sW l) hg) (lW T rfl (vV (by exact cP rfl rfl hc rfl (by simp [AV.idfL,AV.idf,hi]) rfl) ?_))))))|(refine rg 5 (mW rfl (aV ?_)))|refine nZ ?_));all_goals first | (exfalso;omega) | exact dZ (.inl rfl) rfl (by rw [he];rfl)
    | false =>
      rw [hp] at hc;rw [hp,if_neg (by simp)] at he
      (repeat' (first|refine wS ?_|refine wB ?_|refine wK ?_|refine wU ?_|(refine wC rfl ?_ ?_<;>(intro hb;(try simp only [nm] at hb);try (exfalso;omega)))|(refine rg 2 (vV (bC rfl rfl) ?_))|(refine rg 3 (mW rfl (aV ?_)))|(refine rg 4 (fI rfl (mW rfl (vV (ix T rfl (by omega) (sW l) hg) (lW T rfl (vV (by exact cP rfl rfl hc rfl (by simp [AV.idfL,AV.idf,hi]) rfl) ?_))))))|(refine rg 6 (vV (eC rfl rfl (by omega) (by omega)) (mV ?_)))|refine nZ ?_));all_goals first | (exfalso;omega) | exact ⟨⟨k + 1,hlt,he⟩,by dsimp only;omega,⟨[],rfl,⟨rfl,by rw [fR hi];rfl,rfl,rfl,trivial⟩,trivial,bB,fun _ h => absurd h (gX _)⟩⟩
  · rw [AN (by omega)] at he
    (repeat' (first|refine wS ?_|refine wR ?_|refine wE ?_|(refine wC rfl ?_ ?_<;>(intro hb;(try simp only [nm] at hb);try (exfalso;omega)))|(refine rg 2 (vV (bC rfl rfl) ?_))|(refine rg 7 (aV ?_))|refine nZ ?_));all_goals first | (exfalso;omega) | exact dZ (.inl rfl) rfl (by rw [he];rfl)
theorem FJ {l : List Wt} {F : FuncId} {caps : List AV} {p : Wt → Bool} (hl : l.length ≤ 1000000) (hi : AV.idfL caps = true) (hF : ∀ x,x ∈ l → bN Tryz.prog F (.agg [.i x.1,.i x.2.1,.i x.2.2] :: caps) [] (.b (p x)) []) :
    bN Tryz.prog 51 [.rowE (bF l) 3,.clo (.func F) [] caps] [] (.b (l.any p)) [] := by
  have hc := SR hl hi hF;rw [← AO p l 0];refine dR T Tryz.func51 rfl rfl rfl rfl ?_
  (repeat' (first|refine wS ?_|refine wR ?_|(refine rg 0 (aV ?_))|(refine rg 1 (fI rfl (vV (by exact cP rfl rfl hc rfl (by simp [AV.idfL,AV.idf,hi]) rfl) ?_));refine vV (fZ rfl rfl) (aV ?_))|refine nZ ?_));all_goals first | (exfalso;omega) | exact rQ
theorem SS {l : List Tk} {F : FuncId} {caps : List AV} {p : Tk → Bool} (hl : l.length ≤ 1000000) (hi : AV.idfL caps = true) (hF : ∀ x,x ∈ l → bN Tryz.prog F (.agg [.i x.1,.i x.2] :: caps) [] (.b (p x)) []) :
    bN Tryz.prog 106 [.rowE (eO l) 2,.clo (.func F) [] caps] [] (.i (uS p l 0)) [] := by
  have hlen : (eO l).length = l.length := bJ _;refine dR T Tryz.func106 rfl rfl rfl rfl ?_
  (repeat' (first|refine wS ?_|refine wB ?_|(refine rg 0 (aV ?_))|(refine rg 1 (mW rfl (qW T rfl (mV ?_))))|refine nZ ?_));refine eZ (X := {k : Nat // k ≤ l.length ∧ uS p l 0 = uS p (l.drop k) k}) (fun k => [(0,.rowE (eO l) 2),(1,.clo (.func F) [] caps),(7,.i (eO l).length),(8,.i k.1)]) (fun _ => []) (fun k => l.length - k.1) ⟨0,by simp,rfl⟩ ⟨[],rfl,⟨rfl,by rw [fR hi];rfl,rfl,rfl,trivial⟩,trivial,bB,fun _ h => absurd h (gX _)⟩ ?_
  rintro ⟨k,hk,he⟩;dsimp only;by_cases hlt : k < l.length
  · have hc := hF l[k] (aK hlt);have hg := CQ (l := l) hlt;rw [FI hlt] at he;generalize l[k] = y at *;cases hp : p y with
    | true =>
      rw [hp] at hc;rw [hp,if_pos rfl] at he
      (repeat' (first|refine wS ?_|refine wB ?_|refine wK ?_|refine wR ?_|refine wT ?_|(refine wC rfl ?_ ?_<;>(intro hb;(try simp only [nm] at hb);try (exfalso;omega)))|(refine rg 2 (vV (bC rfl rfl) ?_))|(refine rg 3 (mW rfl (aV ?_)))|(refine rg 4 (fI rfl (mW rfl (vV (ix T rfl (by omega) (D6 l) hg) (lW T rfl (vV (by exact cP rfl rfl hc rfl (by simp [AV.idfL,AV.idf,hi]) rfl) ?_))))))|(refine rg 5 (mW rfl (aV ?_)))|refine nZ ?_));all_goals first | (exfalso;omega) | exact dZ (.inl rfl) rfl (by rw [he];rfl)
    | false =>
      rw [hp] at hc;rw [hp,if_neg (by simp)] at he
      (repeat' (first|refine wS ?_|refine wB ?_|refine wK ?_|refine wU ?_|(refine wC rfl ?_ ?_<;>(intro hb;(try simp only [nm] at hb);try (exfalso;omega)))|(refine rg 2 (vV (bC rfl rfl) ?_))|(refine rg 3 (mW rfl (aV ?_)))|(refine rg 4 (fI rfl (mW rfl (vV (ix T rfl (by omega) (D6 l) hg) (lW T rfl (vV (by exact cP rfl rfl hc rfl (by simp [AV.idfL,AV.idf,hi]) rfl) ?_))))))|(refine rg 6 (vV (eC rfl rfl (by omega) (by omega)) (mV ?_)))|refine nZ ?_));all_goals first | (exfalso;omega) | exact ⟨⟨k + 1,hlt,he⟩,by dsimp only;omega,⟨[],rfl,⟨rfl,by rw [fR hi];rfl,rfl,rfl,trivial⟩,trivial,bB,fun _ h => absurd h (gX _)⟩⟩
  · rw [AN (by omega)] at he
    (repeat' (first|refine wS ?_|refine wR ?_|refine wE ?_|(refine wC rfl ?_ ?_<;>(intro hb;(try simp only [nm] at hb);try (exfalso;omega)))|(refine rg 2 (vV (bC rfl rfl) ?_))|(refine rg 7 (aV ?_))|refine nZ ?_));all_goals first | (exfalso;omega) | exact dZ (.inl rfl) rfl (by rw [he];rfl)
theorem uQ (l : List Wt) (hl : l.length ≤ 1000000) : bN Tryz.prog 45 [.rowE (bF l) 3] [] (.sl 0 0 l.length 3) [.arr (bF l) 3] := by
  have hll : (bF l).length = l.length := gR l;refine dR T Tryz.func45 rfl rfl rfl rfl ?_
  repeat' (first|refine wS ?_|refine wK ?_|refine wT ?_|refine wU ?_|(refine rg 0 (aV ?_))|(refine rg 1 (mV ?_);refine wH T rfl rfl rfl rfl fun b hb=>?_;cases b)|refine nZ ?_)
  · (repeat' (first|refine wR ?_|(refine rg 3 (dX (by exact cJ T rfl rfl (by decide) (by decide) rfl rfl rfl) rfl ?_);refine mW rfl (iP T rfl rfl rfl rfl rfl rfl (by decide) (.row (sW l)) (RH l) (by simp;omega) (by simp;omega) rfl ?_);refine aV ?_)|(refine nZ ?_)));exact ⟨.inl rfl,[1],_,rfl,(by show AV.sl 1 0 (0 + (bF l).length) 3 = AV.sl 1 0 l.length 3;simp),rfl,⟨.inr (cS rfl rfl (uZ _)),trivial⟩,by decide,nX _⟩
  · have hl0 : l = [] := iX.1 (Classical.byContradiction fun h => by have := hb (by omega);cases this)
    subst hl0
    (repeat' (first|refine wR ?_|(refine rg 2 (vV (jF rfl) (D4 2 3 rfl (by decide) ?_)))|refine nZ ?_));exact ⟨.inl rfl,[0],_,rfl,rfl,rfl,⟨.inr (cS rfl rfl (uZ _)),trivial⟩,by decide,nX _⟩
theorem HT (l : List Tk) (hl : l.length ≤ 1000000) : bN Tryz.prog 97 [.rowE (eO l) 2] [] (.sl 0 0 l.length 2) [.arr (eO l) 2] := by
  have hll : (eO l).length = l.length := qA l;refine dR T Tryz.func97 rfl rfl rfl rfl ?_
  repeat' (first|refine wS ?_|refine wK ?_|refine wT ?_|refine wU ?_|(refine rg 0 (aV ?_))|(refine rg 1 (mV ?_);refine wH T rfl rfl rfl rfl fun b hb=>?_;cases b)|refine nZ ?_)
  · (repeat' (first|refine wR ?_|(refine rg 3 (dX (by exact cJ T rfl rfl (by decide) (by decide) rfl rfl rfl) rfl ?_);refine mW rfl (iP T rfl rfl rfl rfl rfl rfl (by decide) (.row (D6 l)) (RN l) (by simp;omega) (by simp;omega) rfl ?_);refine aV ?_)|(refine nZ ?_)));exact ⟨.inl rfl,[1],_,rfl,(by show AV.sl 1 0 (0 + (eO l).length) 2 = AV.sl 1 0 l.length 2;simp),rfl,⟨.inr (cS rfl rfl (nO _)),trivial⟩,by decide,nX _⟩
  · have hl0 : l = [] := iX.1 (Classical.byContradiction fun h => by have := hb (by omega);cases this)
    subst hl0
    (repeat' (first|refine wR ?_|(refine rg 2 (vV (jF rfl) (D4 2 2 rfl (by decide) ?_)))|refine nZ ?_));exact ⟨.inl rfl,[0],_,rfl,rfl,rfl,⟨.inr (cS rfl rfl (nO _)),trivial⟩,by decide,nX _⟩
theorem HU (l : List Bo) (hl : l.length ≤ 1000000) : bN Tryz.prog 49 [.rowE (eY l) 3] [] (.sl 0 0 l.length 3) [.arr (eY l) 3] := by
  have hll : (eY l).length = l.length := jG l;refine dR T Tryz.func49 rfl rfl rfl rfl ?_
  repeat' (first|refine wS ?_|refine wK ?_|refine wT ?_|refine wU ?_|(refine rg 0 (aV ?_))|(refine rg 1 (mV ?_);refine wH T rfl rfl rfl rfl fun b hb=>?_;cases b)|refine nZ ?_)
  · (repeat' (first|refine wR ?_|(refine rg 3 (dX (by exact cJ T rfl rfl (by decide) (by decide) rfl rfl rfl) rfl ?_);refine mW rfl (iP T rfl rfl rfl rfl rfl rfl (by decide) (.row (pX l)) (MH l) (by simp;omega) (by simp;omega) rfl ?_);refine aV ?_)|(refine nZ ?_)));exact ⟨.inl rfl,[1],_,rfl,(by show AV.sl 1 0 (0 + (eY l).length) 3 = AV.sl 1 0 l.length 3;simp),rfl,⟨.inr (cS rfl rfl (vS _)),trivial⟩,by decide,nX _⟩
  · have hl0 : l = [] := iX.1 (Classical.byContradiction fun h => by have := hb (by omega);cases this)
    subst hl0
    (repeat' (first|refine wR ?_|(refine rg 2 (vV (jF rfl) (D4 2 3 rfl (by decide) ?_)))|refine nZ ?_));exact ⟨.inl rfl,[0],_,rfl,rfl,rfl,⟨.inr (cS rfl rfl (vS _)),trivial⟩,by decide,nX _⟩
def J5 : List Int → Int → Int → Int
  | [],_,_ => -1
  | x :: r,v,k => if v = x then k else J5 r v (k + 1)
theorem AM : ∀ (l : List Int) (v k : Int), 0 ≤ k → (0 ≤ J5 l v k ↔ v ∈ l)
  | [],v,k,_ => by simp [J5]
  | x :: r,v,k,hk => by
    simp only [J5];split
    · rename_i e;subst e;simp [hk]
    · rename_i e;rw [AM r v (k + 1) (by omega)]
      simp [e]
theorem HI {l : List Int} {v : Int} {k : Nat} (h : k < l.length) : J5 (l.drop k) v k = if v = l[k] then (k : Int) else J5 (l.drop (k + 1)) v ((k + 1 : Nat) : Int) := by
  rw [aS h];simp [J5]
theorem LB (l : List Int) (v : Int) (hl : l.length ≤ 1000000) : bN Tryz.prog 121 [.rowE (gI l) 1,.i v] [] (.i (J5 l v 0)) [] := by
  have hlen : (gI l).length = l.length := by simp
  refine dR T Tryz.func121 rfl rfl rfl rfl ?_
  (repeat' (first|refine wS ?_|refine wB ?_|(refine rg 0 (aV ?_))|(refine rg 1 (mW rfl (qW T rfl (mV ?_))))|refine nZ ?_));refine eZ (X := {k : Nat // k ≤ l.length ∧ J5 l v 0 = J5 (l.drop k) v k}) (fun k => [(0,.rowE (gI l) 1),(1,.i v),(7,.i (gI l).length),(8,.i k.1)]) (fun _ => []) (fun k => l.length - k.1) ⟨0,by simp,rfl⟩ (rI []) ?_
  rintro ⟨k,hk,hf⟩;dsimp only;by_cases hlt : k < l.length
  · have hd := HI (v := v) hlt;have hg := DI (l := l) hlt
    repeat' (first|refine wS ?_|refine wB ?_|refine wK ?_|refine wR ?_|(refine wC rfl ?_ ?_<;>(intro hb;(try simp only [nm] at hb);try (exfalso;omega)))|(refine rg 2 (vV (bC rfl rfl) ?_))|(refine rg 3 (mW rfl (aV ?_)))|(refine rg 4 (fI rfl (mW rfl (vV (ix T rfl (by omega) (DH l) hg) (lW T rfl (vV (cO rfl rfl) ?_))))))|(refine rg 5 (mW rfl (aV ?_)))|(refine rg 6 (vV (eC rfl rfl (by omega) (by omega)) (mV ?_)))|refine nZ ?_)
    · refine dZ (.inl rfl) rfl ?_;rw [hf,hd,if_pos hb];rfl
    · refine ⟨⟨k + 1,by omega,?_⟩,by dsimp only;omega,rI []⟩
      rw [hf,hd,if_neg hb]
  · (repeat' (first|refine wS ?_|refine wR ?_|refine wE ?_|(refine wC rfl (fun hb => ?_) (fun hb => ?_) <;> (((try simp only [nm] at hb);try (exfalso;omega))))|(refine rg 2 (vV (bC rfl rfl) ?_))|(refine rg 7 (aV ?_))|(refine nZ ?_)));refine dZ (.inl rfl) rfl ?_
    rw [hf,dJ (by omega)];rfl
theorem BH (l : List Int) (v : Int) (hl : l.length ≤ 1000000) : bN Tryz.prog 105 [.rowE (gI l) 1,.i v] [] (.b (decide (v ∈ l))) [] := by
  refine dR T Tryz.func105 rfl rfl rfl rfl ?_
  (repeat' (first|refine wS ?_|refine wR ?_|(refine rg 0 (aV ?_))|(refine rg 1 (fI rfl (vV (kC (LB l v hl)) (vV (fZ rfl rfl) (aV ?_)))))|refine nZ ?_));refine dZ (.inl rfl) rfl (vU ?_)
  rw [Q2];simp only [decide_eq_true_eq];exact AM l v 0 (by omega)
theorem TP (w : Wt) : bN Tryz.prog 98 [.agg [.i w.1,.i w.2.1,.i w.2.2]] [] (.b (rX w)) [] := by
  refine dR T Tryz.func98 rfl rfl rfl rfl ?_
  (repeat' (first|refine wS ?_|refine wR ?_|(refine rg 0 (dX (gV rfl rfl) rfl (aV ?_)))|(refine rg 1 (jP T rfl (vV (bC rfl rfl) (mV ?_)));refine bM rfl rfl ?_ ?_<;>(intro hb;rw [hb];(try simp only [nm] at hb);try (exfalso;omega));(all_goals first|(refine gT (fW T rfl (gT (lW T rfl (gT (vV (bC rfl rfl) ?_))))))|(iterate 3 refine gF ?_));(all_goals (refine pW rfl (mV ?_)));(all_goals first|(refine gK ?_)|(refine bM rfl rfl ?_ ?_<;>(intro hb;rw [hb];(try simp only [nm] at hb);try (exfalso;omega))));(all_goals first|(refine gT (fW T rfl (gT (lW T rfl (gT (vV (fY rfl rfl) ?_))))))|(iterate 3 refine gF ?_));(all_goals (refine pW rfl (mV ?_)));(all_goals first|(refine gK ?_)|(refine bM rfl rfl ?_ ?_<;>(intro hb;rw [hb];(try simp only [nm] at hb);try (exfalso;omega))));(all_goals first|(refine gT (fW T rfl (gT (lW T rfl (gT (vV (bC rfl rfl) ?_))))))|(iterate 3 refine gF ?_));(all_goals (refine pW rfl (mV ?_)));(all_goals first|(refine gK ?_)|(refine bM rfl rfl ?_ ?_<;>(intro hb;rw [hb];(try simp only [nm] at hb);try (exfalso;omega))));(all_goals first|(refine gT (fW T rfl (gT (lW T rfl (gT (vV (fY rfl rfl) ?_))))))|(iterate 3 refine gF ?_));(all_goals (refine pW rfl (aV ?_))))|refine nZ ?_));all_goals first | (exfalso;omega) | exact dZ (.inl rfl) rfl (vU (by unfold rX;first | rfl | (rw [Q2];simp only [mU,decide_eq_true_eq,true_iff];omega) | (rw [Q2];simp;omega)))
theorem L4 (ws : List Wt) (due : Int) (hl : ws.length ≤ 1000000) : bN Tryz.prog 48 [.rowE (bF ws) 3,.i due] [] (.b (kE ws due)) [] := by
  have hc := FJ (l := ws) (F := 98) (caps := []) (p := rX) hl rfl fun x _ => TP x
  have hll := gR ws;unfold kE;generalize ws.any rX = q at *;by_cases h1 : ws.length < 1
  · (rw [show (!(decide (ws.length < 1) || (decide (20 < ws.length) || (decide (due < 0) || decide (20000 < due)))) && !q) = false by simp [*]]
     refine dR T Tryz.func48 rfl rfl rfl rfl ?_
     (repeat' (first|refine wS ?_|refine wR ?_|refine wT ?_|(refine rg 0 (aV ?_))|(refine rg 1 (mW rfl (qW T rfl (vV (bC rfl rfl) (mV ?_))));refine bM rfl rfl ?_ ?_<;>(intro hb;rw [hb];(try simp only [nm] at hb);try (exfalso;omega));(all_goals ((iterate 3 refine gF ?_);refine pW rfl (mV ?_);(iterate 2 refine gF ?_);refine pW rfl (mV ?_);(iterate 2 refine gF ?_);refine pV ?_)))|(refine rg 2 (aV ?_))|refine nZ ?_));all_goals first | (exfalso;omega) | exact rQ)
  by_cases h2 : 20 < ws.length
  · (rw [show (!(decide (ws.length < 1) || (decide (20 < ws.length) || (decide (due < 0) || decide (20000 < due)))) && !q) = false by simp [*]]
     refine dR T Tryz.func48 rfl rfl rfl rfl ?_
     (repeat' (first|refine wS ?_|refine wR ?_|refine wT ?_|(refine rg 0 (aV ?_))|(refine rg 1 (mW rfl (qW T rfl (vV (bC rfl rfl) (mV ?_))));refine bM rfl rfl ?_ ?_<;>(intro hb;rw [hb];(try simp only [nm] at hb);try (exfalso;omega));(all_goals (refine yN rfl (gT (qW T rfl (yV (fY rfl rfl) (pW rfl (mV ?_)))));refine bM rfl rfl ?_ ?_<;>(intro hb;rw [hb];(try simp only [nm] at hb);try (exfalso;omega))));(all_goals ((iterate 2 refine gF ?_);refine pW rfl (mV ?_);(iterate 2 refine gF ?_);refine pV ?_)))|(refine rg 2 (aV ?_))|refine nZ ?_));all_goals first | (exfalso;omega) | exact rQ)
  by_cases h3 : due < 0
  · (rw [show (!(decide (ws.length < 1) || (decide (20 < ws.length) || (decide (due < 0) || decide (20000 < due)))) && !q) = false by simp [*]]
     refine dR T Tryz.func48 rfl rfl rfl rfl ?_
     (repeat' (first|refine wS ?_|refine wR ?_|refine wT ?_|(refine rg 0 (aV ?_))|(refine rg 1 (mW rfl (qW T rfl (vV (bC rfl rfl) (mV ?_))));refine bM rfl rfl ?_ ?_<;>(intro hb;rw [hb];(try simp only [nm] at hb);try (exfalso;omega));(all_goals (refine yN rfl (gT (qW T rfl (yV (fY rfl rfl) (pW rfl (mV ?_)))));refine bM rfl rfl ?_ ?_<;>(intro hb;rw [hb];(try simp only [nm] at hb);try (exfalso;omega))));(all_goals (refine yN rfl (yV (bC rfl rfl) (pW rfl (mV ?_)));refine bM rfl rfl ?_ ?_<;>(intro hb;rw [hb];(try simp only [nm] at hb);try (exfalso;omega))));(all_goals ((iterate 2 refine gF ?_);refine pV ?_)))|(refine rg 2 (aV ?_))|refine nZ ?_));all_goals first | (exfalso;omega) | exact rQ)
  by_cases h4 : 20000 < due
  · (rw [show (!(decide (ws.length < 1) || (decide (20 < ws.length) || (decide (due < 0) || decide (20000 < due)))) && !q) = false by simp [*]]
     refine dR T Tryz.func48 rfl rfl rfl rfl ?_
     (repeat' (first|refine wS ?_|refine wR ?_|(refine wC rfl ?_ ?_<;>(intro hb;(try simp only [nm] at hb);try (exfalso;omega)))|(refine rg 0 (aV ?_))|(refine rg 1 (mW rfl (qW T rfl (vV (bC rfl rfl) (mV ?_))));refine bM rfl rfl ?_ ?_<;>(intro hb;rw [hb];(try simp only [nm] at hb);try (exfalso;omega));(all_goals (refine yN rfl (gT (qW T rfl (yV (fY rfl rfl) (pW rfl (mV ?_)))));refine bM rfl rfl ?_ ?_<;>(intro hb;rw [hb];(try simp only [nm] at hb);try (exfalso;omega))));(all_goals (refine yN rfl (yV (bC rfl rfl) (pW rfl (mV ?_)));refine bM rfl rfl ?_ ?_<;>(intro hb;rw [hb];(try simp only [nm] at hb);try (exfalso;omega))));(all_goals (refine yN rfl (yV (fY rfl rfl) (pV ?_)))))|(refine rg 2 (aV ?_))|refine nZ ?_));all_goals first | (exfalso;omega) | exact rQ)
  rw [show (!(decide (ws.length < 1) || (decide (20 < ws.length) || (decide (due < 0) || decide (20000 < due)))) && !q) = !q by simp [h1,h2,h3,h4]]
  refine dR T Tryz.func48 rfl rfl rfl rfl ?_
  (repeat' (first|refine wS ?_|refine wK ?_|refine wR ?_|(refine wC rfl ?_ ?_<;>(intro hb;(try simp only [nm] at hb);try (exfalso;omega)))|(refine rg 0 (aV ?_))|(refine rg 1 (mW rfl (qW T rfl (vV (bC rfl rfl) (mV ?_))));refine bM rfl rfl ?_ ?_<;>(intro hb;rw [hb];(try simp only [nm] at hb);try (exfalso;omega));(all_goals (refine yN rfl (gT (qW T rfl (yV (fY rfl rfl) (pW rfl (mV ?_)))));refine bM rfl rfl ?_ ?_<;>(intro hb;rw [hb];(try simp only [nm] at hb);try (exfalso;omega))));(all_goals (refine yN rfl (yV (bC rfl rfl) (pW rfl (mV ?_)));refine bM rfl rfl ?_ ?_<;>(intro hb;rw [hb];(try simp only [nm] at hb);try (exfalso;omega))));(all_goals (refine yN rfl (yV (fY rfl rfl) (pV ?_)))))|(refine rg 3 (mW rfl (vV (kC (hc)) (vV (eF rfl) (aV ?_)))))|refine nZ ?_));all_goals first | (exfalso;omega) | exact rQ
end Go.Proofs.YtdiogjgohbbllaaGreatDoor
namespace Go.Or
open Go Go.Ab
theorem F9 {k : Int → Int} {x : Int} : ∀ {S1 S2 : List Int}, (∀ y, y ∈ S1 → k y ≤ k x) → (∀ y, y ∈ S2 → k x < k y) → sS k x (S1 ++ S2) = S1 ++ x :: S2
  | [],[],_,_ => rfl
  | [],y :: S2,_,h => by
    simp only [List.nil_append,sS];rw [if_pos (h y aP)]
  | z :: S1,S2,h1,h2 => by
    simp only [List.cons_append,sS];rw [if_neg (by have := h1 z aP;omega),F9 (fun y hy => h1 y (aF _ hy)) h2]
abbrev VT (k : Int → Int) (l : List Int) : Prop := l.Pairwise fun a b => k a ≤ k b
theorem FH {k : Int → Int} {x : Int} : ∀ {l : List Int}, VT k l → VT k (sS k x l)
  | [],_ => by simp [sS]
  | y :: l,h => by
    have h1 := IH.1 h;unfold sS;split
    · rename_i hlt;refine IH.2 ⟨fun z hz => ?_,h⟩
      rcases aQ.1 hz with rfl | hz
      · omega
      · have := h1.1 z hz;omega
    · rename_i hlt;refine IH.2 ⟨fun z hz => ?_,FH h1.2⟩
      rcases G0.1 hz with rfl | hz
      · omega
      · exact h1.1 z hz
theorem BB {k : Int → Int} : ∀ {l a : List Int}, VT k a → VT k (l.foldl (fun a x => sS k x a) a)
  | [],a,h => h
  | x :: l,a,h => by rw [P9];exact BB (FH h)
theorem JG (k : Int → Int) (l : List Int) : VT k (kD k l) := BB List.Pairwise.nil
theorem CU (k : Int → Int) (l : List Int) (x : Int) : kD k (l ++ [x]) = sS k x (kD k l) := by unfold kD;rw [List.foldl_append];rfl
theorem DJ {α : Type} (A B : List α) (x : α) {n : Nat} (h : n = A.length) : (A ++ x :: B)[n]? = some x := by subst h;simp
theorem FB {α : Type} (A B : List α) (x y : α) {n : Nat} (h : n = A.length) : (A ++ x :: B).set n y = A ++ y :: B := by subst h;simp
structure RF (k : Int → Int) (l : List Int) (i : Nat) (x : Int) (q : List Int × List Int) : Prop where
  eq : q.1 ++ q.2 = kD k (l.take i)
  gt : ∀ y,y ∈ q.2 → k x < k y
def sQ (l : List Int) (i : Nat) (x : Int) (q : List Int × List Int) : List Int := q.1 ++ x :: (q.2 ++ l.drop (i + 1))
def Q6 (k : Int → Int) (l : List Int) (i : Nat) : List Int := kD k (l.take i) ++ l.drop i
theorem HE {k : Int → Int} {l : List Int} {i : Nat} {x : Int} (h : i < l.length) (hx : l[i]? = some x) : RF k l i x (kD k (l.take i),[]) ∧ Q6 k l i = sQ l i x (kD k (l.take i),[]) := by
  refine ⟨⟨by simp,fun y hy => by cases hy⟩,?_⟩
  unfold Q6 sQ;rw [aS h,(aA.1 hx).2];simp
theorem FC {k : Int → Int} {l : List Int} {i : Nat} {x : Int} {q : List Int × List Int} (h : RF k l i x q) (hi : i < l.length) : q.1.length + q.2.length = i := by
  have := congrArg List.length h.eq;rw [aC,qE,bT] at this;omega
theorem KQ {k : Int → Int} {l : List Int} {i : Nat} {x : Int} {q : List Int × List Int} (h : RF k l i x q) (hi : i < l.length) : (sQ l i x q).length = l.length := by
  have := FC h hi;unfold sQ;simp only [aC,List.length_cons,fM];omega
theorem KO {k : Int → Int} {l : List Int} {i : Nat} {x : Int} {q : List Int × List Int} (h : RF k l i x q) (hi : i < l.length) (hx : l[i]? = some x) (hs : ∀ y,y ∈ q.1 → k y ≤ k x) : sQ l i x q = Q6 k l (i + 1) := by
  unfold sQ Q6;rw [aX hi,(aA.1 hx).2,CU,← h.eq,F9 hs h.gt];simp
theorem OZ {k : Int → Int} {l : List Int} {i : Nat} {x y : Int} {S : List Int} {q : List Int × List Int} (h : RF k l i x q) (e : q.1 = S ++ [y]) (hc : ¬ k x < k y) : ∀ z,z ∈ q.1 → k z ≤ k x := by
  have hu := JG k (l.take i);rw [← h.eq,e] at hu;have h1 := (List.pairwise_append.1 hu).1;have h2 := (List.pairwise_append.1 h1).2.2;intro z hz;rw [e] at hz;rcases bD.1 hz with hz | hz
  · have := h2 z hz y (by simp);omega
  · rw [bE.1 hz];omega
theorem KP {k : Int → Int} {l : List Int} {i : Nat} {x y : Int} {S : List Int} {q : List Int × List Int} (h : RF k l i x q) (e : q.1 = S ++ [y]) (hc : k x < k y) : RF k l i x (S,y :: q.2) := by
  refine ⟨?_,fun z hz => ?_⟩
  · rw [← h.eq,e];simp
  · rcases aQ.1 hz with rfl | hz
    · exact hc
    · exact h.gt z hz
def BK (x y : Int) : Int := if x < y then -1 else if y < x then 1 else 0
theorem MD {x y : Int} : BK x y < 0 ↔ x < y := by unfold BK;split <;> (try split) <;> omega
theorem KJ {L : List Int} {j : Int} {i : Nat} {x : Int} (h : L[i]? = some x) (e : j = i) : (gI L)[0 + j.toNat]? = some [AV.i x] := by
  subst e;rw [Nat.zero_add,bU,aR,h];rfl
theorem KI {L : List Int} {j : Int} {i : Nat} {x : Int} (e : j = i) : (gI L).set (0 + j.toNat) [AV.i x] = gI (L.set i x) := by
  subst e;rw [Nat.zero_add,bU];show _ = List.map (fun n : Int => [AV.i n]) (L.set i x);rw [nU]
end Go.Or
namespace Go.Proofs.YtdiogjgohbbllaaGreatDoor
open Go Go.Ab Go.Or
attribute [local irreducible] VC AW bQ bN
set_option maxHeartbeats 4000000
theorem wD : ∀ i : Nat,i < 1 → ([0] : List Nat)[i]? = some i := by decide
theorem yZ (x : Int) : bN Tryz.prog 120 [.i x] [] (.b false) [] := by
  refine dR T Tryz.func120 rfl rfl rfl rfl ?_
  (repeat' (first|refine wS ?_|refine wR ?_|(refine rg 0 (aV ?_))|(refine rg 1 (fI rfl (vV (nQ rfl rfl) (aV ?_))))|refine nZ ?_));all_goals first | (exfalso;omega) | exact dZ (.inl rfl) rfl (vU (by simp))
theorem TJ (x y : Int) : bN Tryz.prog 104 [.i x,.i y] [] (.i (BK x y)) [] := by
  by_cases h1 : x < y
  · rw [show BK x y = -1 by unfold BK;rw [if_pos h1]]
    refine dR T Tryz.func104 rfl rfl rfl rfl ?_
    (repeat' (first|refine wS ?_|refine wK ?_|refine wR ?_|refine wU ?_|(refine wC rfl ?_ ?_<;>(intro hb;(try simp only [nm] at hb);try (exfalso;omega)))|(refine rg 0 (aV ?_))|(refine rg 1 (mW rfl (vV (kC (yZ x)) (aV ?_))))|(refine rg 2 (mW rfl (vV (kC (yZ y)) (aV ?_))))|(refine rg 3 (mV ?_))|(refine rg 7 (mV ?_))|(refine rg 9 (fI rfl (vV (bC rfl rfl) ?_)))|(refine rg 10 (aV ?_))|refine nZ ?_));all_goals first | (exfalso;omega) | exact rQ
  · by_cases h2 : y < x
    · rw [show BK x y = 1 by unfold BK;rw [if_neg h1,if_pos h2]]
      refine dR T Tryz.func104 rfl rfl rfl rfl ?_
      (repeat' (first|refine wS ?_|refine wK ?_|refine wR ?_|refine wU ?_|(refine wC rfl ?_ ?_<;>(intro hb;(try simp only [nm] at hb);try (exfalso;omega)))|(refine rg 0 (aV ?_))|(refine rg 1 (mW rfl (vV (kC (yZ x)) (aV ?_))))|(refine rg 2 (mW rfl (vV (kC (yZ y)) (aV ?_))))|(refine rg 3 (mV ?_))|(refine rg 7 (mV ?_))|(refine rg 9 (fI rfl (vV (bC rfl rfl) ?_)))|(refine rg 11 (fI rfl (vV (fY rfl rfl) ?_)))|(refine rg 12 (aV ?_))|refine nZ ?_));all_goals first | (exfalso;omega) | exact rQ
    · rw [show BK x y = 0 by unfold BK;rw [if_neg h1,if_neg h2]]
      refine dR T Tryz.func104 rfl rfl rfl rfl ?_
      (repeat' (first|refine wS ?_|refine wK ?_|refine wR ?_|refine wU ?_|(refine wC rfl ?_ ?_<;>(intro hb;(try simp only [nm] at hb);try (exfalso;omega)))|(refine rg 0 (aV ?_))|(refine rg 1 (mW rfl (vV (kC (yZ x)) (aV ?_))))|(refine rg 2 (mW rfl (vV (kC (yZ y)) (aV ?_))))|(refine rg 3 (mV ?_))|(refine rg 7 (mV ?_))|(refine rg 9 (fI rfl (vV (bC rfl rfl) ?_)))|(refine rg 11 (fI rfl (vV (fY rfl rfl) ?_)))|(refine rg 13 (aV ?_))|refine nZ ?_));all_goals first | (exfalso;omega) | exact rQ
theorem O3 {F : FuncId} {caps : List AV} (l : List Int) (hl : l.length ≤ 100000) (hc : AV.idfL caps = true) :
    bN Tryz.prog 131 [.sl 0 0 l.length 1,.i l.length,.i l.length,.clo (.func F) [] caps] [.arr (gI l) 1] (.tup []) [.arr (gI l) 1] := by
  refine dR T Tryz.func131 rfl rfl rfl rfl ?_
  (repeat' (first|refine wS ?_|refine wB ?_|(refine iA 0 rfl rfl rfl (by omega) (by omega) ?_)|refine nZ ?_));refine eZ (X := Unit) (fun _ => [(0,.sl 0 0 l.length 1),(1,.i l.length),(2,.i l.length),(8,.i ((l.length : Int) + 1))]) (fun _ => [.arr (gI l) 1]) (fun _ => 0) () ⟨[0],rfl,by (repeat (first | exact trivial | refine ⟨rfl,?_⟩)),⟨.inr (cS rfl rfl (fC _)),trivial⟩,by decide,wD⟩ ?_
  intro _;dsimp only
  (repeat' (first|refine wS ?_|refine wE ?_|(refine wC rfl ?_ ?_<;>(intro hb;(try simp only [nm] at hb);try (exfalso;omega)))|(refine rg 1 (fI rfl (vV (bC rfl rfl) ?_)))|refine nZ ?_));all_goals first | (exfalso;omega) | exact ⟨.inl rfl,[0],_,rfl,rfl,rfl,⟨.inr (cS rfl rfl (fC _)),trivial⟩,by decide,wD⟩ | exact ⟨.inr rfl,[0],_,rfl,rfl,rfl,⟨.inr (cS rfl rfl (fC _)),trivial⟩,by decide,wD⟩
theorem SU {F : FuncId} {caps : List AV} {key : Int → Int} (l : List Int) (hl : l.length ≤ 100000) (hn : 0 < l.length) (hi : AV.idfL caps = true)
    (hF : ∀ x y,x ∈ l → y ∈ l → bN Tryz.prog F (.i x :: .i y :: caps) [] (.i (BK (key x) (key y))) []) :
    bN Tryz.prog 131 [.sl 0 0 l.length 1,.i 0,.i l.length,.clo (.func F) [] caps] [.arr (gI l) 1] (.tup []) [.arr (gI (kD key l)) 1] := by
  refine dR T Tryz.func131 rfl rfl rfl rfl ?_
  (repeat' (first|refine wS ?_|refine wB ?_|(refine iA 0 rfl rfl rfl (by omega) (by omega) ?_)|refine nZ ?_));have h1e : Q6 key l 1 = l := by
    unfold Q6;obtain ⟨a,r,rfl⟩ : ∃ a r,l = a :: r := by
      cases l with
      | nil => simp at hn
      | cons a r => exact ⟨a,r,rfl⟩
    simp [kD,sS]
  refine eZ (X := {i : Nat // 1 ≤ i ∧ i ≤ l.length}) (fun i => [(0,.sl 0 0 l.length 1),(1,.i 0),(2,.i l.length),(3,.clo (.func F) [] caps),(8,.i i.1)]) (fun i => [.arr (gI (Q6 key l i.1)) 1]) (fun i => l.length - i.1) ⟨1,by omega,by omega⟩ ⟨[0],rfl,⟨rfl,rfl,rfl,by rw [fR hi];rfl,rfl,trivial⟩,⟨.inr (cS rfl (by dsimp only;rw [h1e]) (fC _)),trivial⟩,by decide,wD⟩ ?_
  rintro ⟨i,h1,h2⟩;dsimp only;by_cases hil : i < l.length
  · (repeat' (first|refine wS ?_|refine wB ?_|refine wK ?_|(refine wC rfl (fun hb => ?_) (fun hb => ?_) <;> (((try simp only [nm] at hb);try (exfalso;omega))))|(refine rg 1 (fI rfl (vV (bC rfl rfl) ?_)))|(refine rg 3 (mW rfl (aV ?_)))|(refine nZ ?_)));all_goals try (exfalso;omega)
    obtain ⟨x,hx⟩ : ∃ x,l[i]? = some x := ⟨_,aB hil⟩;have hxl := aH hx;obtain ⟨s1,s2⟩ := HE (k := key) hil hx;refine eZ (X := {q : List Int × List Int // RF key l i x q}) (fun q => [(0,.sl 0 0 l.length 1),(1,.i 0),(2,.i l.length),(3,.clo (.func F) [] caps),(8,.i i),(9,.i (q.1.1.length : Int))]) (fun q => [.arr (gI (sQ l i x q.1)) 1]) (fun q => q.1.1.length) ⟨_,s1⟩ ⟨[0],rfl,⟨rfl,rfl,rfl,by rw [fR hi];rfl,rfl,by dsimp only;rw [qE,bT,P8 (by omega)];rfl,trivial⟩,⟨.inr (cS rfl (by dsimp only;rw [s2]) (fC _)),trivial⟩,by decide,wD⟩ ?_
    rintro ⟨⟨S1,S2⟩,hq⟩;dsimp only;have hln := FC hq hil;dsimp only at hln;have hlen := KQ hq hil;rcases List.eq_nil_or_concat S1 with rfl | ⟨S,y,rfl⟩
    · have ee := KO hq hil hx (fun y hy => by cases hy)
      generalize sQ l i x ([],S2) = L at *
      (repeat' (first|refine wS ?_|refine wE ?_|refine wU ?_|(refine eN (id := 4) 53 YC (rM 18 17) YD fH rfl (by decide +kernel) (dN rfl (dN rfl (dV rfl (fY rfl rfl) (dN rfl (tG rfl (tG rfl (tG rfl (tG rfl (dG ?_)))))))));refine tG rfl (tG rfl (tG rfl (tG rfl (tG rfl (tG rfl (tG rfl (dV rfl (kQ rfl rfl) (dE ?_)))))))))|(refine iA 2 rfl rfl rfl (by omega) (by omega) ?_)|refine nZ ?_));all_goals first | (exfalso;omega) | exact ⟨⟨i + 1,by omega,by omega⟩,by dsimp only;omega,⟨[0],rfl,⟨rfl,rfl,rfl,by rw [fR hi];rfl,rfl,trivial⟩,⟨.inr (cS rfl (by dsimp only;rw [ee]) (fC _)),trivial⟩,by decide,wD⟩⟩
    · rw [List.concat_eq_append] at *;have hy : y ∈ l := by
        have h3 : y ∈ kD key (l.take i) := by rw [← hq.eq];simp
        exact gB (yI.1 h3)
      have hc := hF x y hxl hy;have hL : sQ l i x (S ++ [y],S2) = S ++ y :: x :: (S2 ++ l.drop (i + 1)) := by unfold sQ;simp
      have hJ : ((S ++ [y]).length : Int) = ((S.length + 1 : Nat) : Int) := by simp
      have q1 := KJ (L := sQ l i x (S ++ [y],S2)) (j := ((S ++ [y]).length : Int)) (i := S.length + 1) (x := x) (by rw [hL,show S ++ y :: x :: (S2 ++ l.drop (i + 1)) = (S ++ [y]) ++ x :: (S2 ++ l.drop (i + 1)) by simp];exact DJ _ _ _ (by simp)) hJ
      have q2 := KJ (L := sQ l i x (S ++ [y],S2)) (j := ((S ++ [y]).length : Int) - 1) (i := S.length) (x := y) (by rw [hL];exact DJ _ _ _ rfl) (by omega)
      by_cases h0 : key x < key y
      · have ee := KP hq rfl h0;have hz : BK (key x) (key y) < 0 := MD.2 h0;have t1 := KI (L := sQ l i x (S ++ [y],S2)) (j := ((S ++ [y]).length : Int)) (i := S.length + 1) (x := y) hJ;have e1 : (sQ l i x (S ++ [y],S2)).set (S.length + 1) y = S ++ y :: y :: (S2 ++ l.drop (i + 1)) := by
          rw [hL,show S ++ y :: x :: (S2 ++ l.drop (i + 1)) = (S ++ [y]) ++ x :: (S2 ++ l.drop (i + 1)) by simp,FB _ _ _ _ (by simp)];simp
        rw [e1] at t1;have q3 := KJ (L := S ++ y :: y :: (S2 ++ l.drop (i + 1))) (j := ((S ++ [y]).length : Int) - 1) (i := S.length) (x := y) (DJ _ _ _ rfl) (by omega)
        have t2 := KI (L := S ++ y :: y :: (S2 ++ l.drop (i + 1))) (j := ((S ++ [y]).length : Int) - 1) (i := S.length) (x := x) (by omega)
        rw [FB _ _ _ _ rfl,show S ++ x :: y :: (S2 ++ l.drop (i + 1)) = sQ l i x (S,y :: S2) by unfold sQ;simp,← t1] at t2
        rw [← t1] at q3;have hJ2 : ((S ++ [y]).length : Int) - 1 = (S.length : Int) := by omega
        have hJ3 : ((S ++ [y]).length : Int) < l.length := by omega
        have hJ4 : (0 : Int) < ((S ++ [y]).length : Int) := by omega
        clear hJ hL;generalize ((S ++ [y]).length : Int) = J at *;generalize BK (key x) (key y) = z at *;generalize sQ l i x (S ++ [y],S2) = L at *
        (repeat' (first|refine wS ?_|refine wB ?_|refine wK ?_|(refine wC rfl ?_ ?_<;>(intro hb;(try simp only [nm] at hb);try (exfalso;omega)))|(refine eN (id := 4) 53 YC (rM 18 17) YD fH rfl (by decide +kernel) (dN rfl (dN rfl (dV rfl (fY rfl rfl) (dM ?_))));refine xK rfl rfl rfl rfl ?_ ?_<;>(intro hb;rw [hb];(try simp only [nm] at hb);try (exfalso;omega))<;>(refine tM ?_);(all_goals (refine tN rfl (tN rfl (dT rfl (by exact cN T rfl rfl rfl rfl rfl (by omega) (by omega)) ?_));refine dT rfl (by exact aY T rfl rfl (mH rfl q1) rfl) ?_;refine tN rfl (tN rfl (dT rfl (gO rfl rfl (by omega) (by omega)) (dT rfl (by exact cN T rfl rfl rfl rfl rfl (by omega) (by omega)) ?_)));refine dT rfl (by exact aY T rfl rfl (mH rfl q2) rfl) ?_;refine dT rfl (by exact cP rfl rfl hc rfl (by simp [AV.idfL,AV.idf,hi]) rfl) ?_;refine dT rfl (bC rfl rfl) (dV rfl (mQ rfl rfl) (dE ?_)))))|(refine HZ (id := 6) 53 [[],[],[],[],[3],[],[],[6],[5,6,7],rM 5 4,[],[],[10,11],[10,11,12],[0,1,5,6,7,8,9,10,11,12,13],[0,1,5,6,7,8,9,10,11,12,13,14]] (rM 37 15) [[],[37],[37,38],[37,38,39],[37,38,39],rM 37 5,rM 37 6,rM 37 6,rM 37 5,rM 37 5,rM 37 10,rM 37 11,rM 37 10,rM 37 10,[39,40,41],[39,40,41]] [(15,0)] fH rfl (by decide +kernel) (oX rfl rfl rfl rfl (by exact eP rfl) ?_);refine oX rfl rfl rfl rfl (by exact eP rfl) ?_;refine oX rfl rfl rfl rfl (by exact eP rfl) ?_;refine oX rfl rfl rfl rfl (by exact eP rfl) ?_;refine oX rfl rfl rfl rfl (by exact gO rfl rfl (by omega) (by omega)) ?_;refine oX rfl rfl rfl rfl (by exact eP rfl) ?_;refine oX rfl rfl rfl rfl (by exact eP rfl) ?_;refine oX rfl rfl rfl rfl (by exact gO rfl rfl (by omega) (by omega)) ?_;refine oX rfl rfl rfl rfl (by exact cN T rfl rfl rfl rfl rfl (by omega) (by omega)) ?_;refine oX rfl rfl rfl rfl (by exact aY T rfl rfl (mH rfl q2) rfl) ?_;refine oX rfl rfl rfl rfl (by exact eP rfl) ?_;refine oX rfl rfl rfl rfl (by exact eP rfl) ?_;refine oX rfl rfl rfl rfl (by exact cN T rfl rfl rfl rfl rfl (by omega) (by omega)) ?_;refine oX rfl rfl rfl rfl (by exact aY T rfl rfl (mH rfl q1) rfl) ?_;refine oX rfl rfl rfl rfl (by exact cN T rfl rfl rfl rfl rfl (by omega) (by omega)) ?_;refine TA rfl rfl rfl rfl (aU rfl) T rfl rfl rfl rfl rfl rfl (by decide) (NU rfl q1 rfl) ?_;refine PT rfl rfl rfl (by exact rfl) ?_;refine vV (by exact cN T rfl rfl rfl rfl rfl (by omega) (by omega)) ?_;refine bH T rfl rfl rfl rfl rfl rfl (by decide) (IU rfl q3 rfl) ?_)|(refine rg 5 (mW rfl (vV (gO rfl rfl (by omega) (by omega)) (aV ?_))))|refine nZ ?_));all_goals first | (exfalso;omega) | exact ⟨⟨_,ee⟩,by dsimp only;simp,⟨[0],rfl,⟨rfl,rfl,rfl,by rw [fR hi];rfl,rfl,by dsimp only;rw [← hJ2];try rfl,trivial⟩,⟨.inr (cS rfl (by dsimp only;rw [← t2];try rfl) (fC _)),trivial⟩,by decide,wD⟩⟩
      · have ee := KO hq hil hx (OZ hq rfl h0);have hz : ¬ BK (key x) (key y) < 0 := fun e => h0 (MD.1 e);have hJ3 : ((S ++ [y]).length : Int) < l.length := by omega
        have hJ4 : (0 : Int) < ((S ++ [y]).length : Int) := by omega
        clear hJ hL;generalize ((S ++ [y]).length : Int) = J at *;generalize BK (key x) (key y) = z at *;generalize sQ l i x (S ++ [y],S2) = L at *
        (repeat' (first|refine wS ?_|refine wE ?_|(refine wC rfl ?_ ?_<;>(intro hb;(try simp only [nm] at hb);try (exfalso;omega)))|(refine eN (id := 4) 53 YC (rM 18 17) YD fH rfl (by decide +kernel) (dN rfl (dN rfl (dV rfl (fY rfl rfl) (dM ?_))));refine xK rfl rfl rfl rfl ?_ ?_<;>(intro hb;rw [hb];(try simp only [nm] at hb);try (exfalso;omega))<;>(refine tM ?_);(all_goals (refine tN rfl (tN rfl (dT rfl (by exact cN T rfl rfl rfl rfl rfl (by omega) (by omega)) ?_));refine dT rfl (by exact aY T rfl rfl (mH rfl q1) rfl) ?_;refine tN rfl (tN rfl (dT rfl (gO rfl rfl (by omega) (by omega)) (dT rfl (by exact cN T rfl rfl rfl rfl rfl (by omega) (by omega)) ?_)));refine dT rfl (by exact aY T rfl rfl (mH rfl q2) rfl) ?_;refine dT rfl (by exact cP rfl rfl hc rfl (by simp [AV.idfL,AV.idf,hi]) rfl) ?_;refine dT rfl (bC rfl rfl) (dV rfl (mQ rfl rfl) (dE ?_)))))|(refine iA 2 rfl rfl rfl (by omega) (by omega) ?_)|refine nZ ?_));all_goals first | (exfalso;omega) | exact ⟨⟨i + 1,by omega,by omega⟩,by dsimp only;omega,⟨[0],rfl,⟨rfl,rfl,rfl,by rw [fR hi];rfl,rfl,trivial⟩,⟨.inr (cS rfl (by dsimp only;rw [ee]) (fC _)),trivial⟩,by decide,wD⟩⟩
  · obtain rfl : i = l.length := by omega
    have ee : Q6 key l l.length = kD key l := by unfold Q6;simp
    (repeat' (first|refine wS ?_|refine wE ?_|(refine wC rfl ?_ ?_<;>(intro hb;(try simp only [nm] at hb);try (exfalso;omega)))|(refine rg 1 (fI rfl (vV (bC rfl rfl) ?_)))|refine nZ ?_));all_goals first | (exfalso;omega) | exact ⟨.inl rfl,[0],_,rfl,rfl,rfl,⟨.inr (cS rfl (by rw [ee]) (fC _)),trivial⟩,by decide,wD⟩ | exact ⟨.inr rfl,[0],_,rfl,rfl,rfl,⟨.inr (cS rfl (by rw [ee]) (fC _)),trivial⟩,by decide,wD⟩
end Go.Proofs.YtdiogjgohbbllaaGreatDoor
namespace Go.Or
open Go Go.Ab
theorem GL {ls : List Lo} {bs : List Bo} {w : Wt} {k : Nat} : vC ls bs w (k + 1) = if 0 < cnt bs k ∧ mY ls (bs.getD k (0,0,0)) w = true then vC ls bs w k ++ [(k : Int)] else vC ls bs w k := by
  unfold vC HC;rw [List.range_succ,cQ,List.filter_append];by_cases h : 0 < cnt bs k ∧ mY ls (bs.getD k (0,0,0)) w = true
  · rw [if_pos h];have h2 : mY ls (bs[k]?.getD (0,0,0)) w = true := by simpa using h.2
    simp [h.1,h2]
  · rw [if_neg h];have : ¬ (0 < cnt bs k ∧ mY ls (bs[k]?.getD (0,0,0)) w = true) := by simpa using h
    simp only [List.map_cons,List.map_nil,QF,List.filter_nil,bU,aD,aL,decide_eq_true_eq,if_neg this,List.append_nil]
theorem U0 {bs : List Bo} {k : Nat} (h : k < bs.length) : (eY bs)[(k : Int).toNat]? = some [AV.i (bs.getD k (0,0,0)).1,AV.i (bs.getD k (0,0,0)).2.1,AV.i (bs.getD k (0,0,0)).2.2] := by
  rw [TO h,aD,aB h];rfl
theorem T9 {bs : List Bo} {j : Int} (h0 : 0 ≤ j) (h : j < bs.length) : (eY bs)[j.toNat]? = some [AV.i (bs.getD j.toNat (0,0,0)).1,AV.i (bs.getD j.toNat (0,0,0)).2.1,AV.i (bs.getD j.toNat (0,0,0)).2.2] := by
  have := U0 (bs := bs) (k := j.toNat) (by omega)
  rw [bU] at this;exact this
theorem R7 {ls : List Lo} {j : Int} (h0 : 0 ≤ j) (h : j < ls.length) : (jE ls)[j.toNat]? = some [AV.i (ls.getD j.toNat (0,0,false)).1,AV.i (ls.getD j.toNat (0,0,false)).2.1,AV.b (ls.getD j.toNat (0,0,false)).2.2] := by
  have := PD (l := ls) (k := j.toNat) (by omega)
  rw [this,aD,aB (by omega)];rfl
def V4 (ls : List Lo) (bs : List Bo) : Prop := ∀ i : Nat,i < bs.length → -1 ≤ (bs.getD i (0,0,0)).1 ∧ (bs.getD i (0,0,0)).1 < ls.length
theorem SG (l : List Int) (x : Int) : (List.take l.length (List.drop 0 (gI l))) ++ [[AV.i x]] = gI (l ++ [x]) := by
  rw [dI,bA (by simp)];simp
end Go.Or
namespace Go.Proofs.YtdiogjgohbbllaaGreatDoor
open Go Go.Ab Go.Or
attribute [local irreducible] VC AW bQ bN
set_option maxHeartbeats 4000000
theorem PP (l : Lo) (w : Wt) : bN Tryz.prog 64 [.agg [.i l.1,.i l.2.1,.b l.2.2],.agg [.i w.1,.i w.2.1,.i w.2.2]] [] (.b (LQ l w)) [] := by
  obtain ⟨k,e,f⟩ := l;obtain ⟨a,b,c⟩ := w;dsimp only;unfold LQ;dsimp only;cases f
  all_goals
    refine dR T Tryz.func64 rfl rfl rfl rfl ?_
    (repeat' (first|refine wS ?_|refine wR ?_|(refine rg 0 (dX (gV rfl rfl) rfl (dX (gV rfl rfl) rfl (aV ?_))))|(refine rg 1 (jP T rfl (jP T rfl (vV (cO rfl rfl) (mV ?_))));refine bM rfl rfl ?_ ?_<;>(intro hb;rw [hb];(try simp only [nm] at hb);try (exfalso;omega));(all_goals first|(refine gT (fW T rfl (gT (lW T rfl (gT (vV (eF rfl) ?_))))))|(iterate 3 refine gF ?_));(all_goals (refine pW rfl (mV ?_)));(all_goals first|(refine gT (fW T rfl (gT (lW T rfl (gT (fW T rfl (gT (lW T rfl (gT (vV (fZ rfl rfl) ?_))))))))))|(iterate 5 refine gF ?_));(all_goals (refine pW rfl (aV ?_))))|refine nZ ?_));all_goals first | (exfalso;omega) | exact dZ (.inl rfl) rfl (vU (by first | rfl | (simp;omega) | (simp [*];done)))
theorem PQ (ls : List Lo) (b : Bo) (w : Wt) (hl : ls.length ≤ 1000000) (hb : b.1 < ls.length) : bN Tryz.prog 101 [.rowE (jE ls) 3,.agg [.i b.1,.i b.2.1,.i b.2.2],.agg [.i w.1,.i w.2.1,.i w.2.2]] [] (.b (mY ls b w)) [] := by
  obtain ⟨l,n,t⟩ := b;dsimp only at hb ⊢;have hll := qM ls;unfold mY;dsimp only;by_cases h0 : 0 ≤ l
  · rw [decide_eq_true h0,pE];have hg := R7 h0 hb;have hc := PP (ls.getD l.toNat (0,0,false)) w;generalize ls.getD l.toNat (0,0,false) = x at *;refine dR T Tryz.func101 rfl rfl rfl rfl ?_
    (repeat' (first|refine wS ?_|refine wR ?_|(refine rg 0 (dX (gV rfl rfl) rfl (dX (gV rfl rfl) rfl (aV ?_))))|(refine eN (id := 1) 19 YE (rM 7 12) YF fH rfl (by decide +kernel) (dP T rfl (dO T rfl (dV rfl (fZ rfl rfl) (dM ?_))));refine xK rfl rfl rfl rfl ?_ ?_<;>(intro hb;rw [hb];(try simp only [nm] at hb);try (exfalso;omega))<;>(refine tM ?_);(all_goals (refine tP T rfl (tO T rfl (dT rfl (ix T rfl (by omega) (zD ls) hg) (tO T rfl (tO T rfl (dT rfl (kC (hc)) (dV rfl (mQ rfl rfl) (dE ?_)))))));refine aV ?_)))|refine nZ ?_));all_goals first | (exfalso;omega) | exact rQ
  · rw [decide_eq_false h0,nN];refine dR T Tryz.func101 rfl rfl rfl rfl ?_
    (repeat' (first|refine wS ?_|refine wR ?_|(refine rg 0 (dX (gV rfl rfl) rfl (dX (gV rfl rfl) rfl (aV ?_))))|(refine eN (id := 1) 19 YE (rM 7 12) YF fH rfl (by decide +kernel) (dP T rfl (dO T rfl (dV rfl (fZ rfl rfl) (dM ?_))));refine xK rfl rfl rfl rfl ?_ ?_<;>(intro hb;rw [hb];(try simp only [nm] at hb);try (exfalso;omega))<;>(refine dG ?_);(all_goals (refine tG rfl (tG rfl (tG rfl (tG rfl (tG rfl (tG rfl (dV rfl (kQ rfl rfl) (dE ?_)))))));refine aV ?_)))|refine nZ ?_));all_goals first | (exfalso;omega) | exact rQ
theorem SN (ls : List Lo) (bs : List Bo) (i k : Int) (hl : ls.length ≤ 1000000) (hbl : bs.length ≤ 1000000) (hi : 0 ≤ i ∧ i < bs.length) (hk : 0 ≤ k ∧ k < bs.length)
    (h1 : 0 ≤ (bs.getD i.toNat (0,0,0)).1 ∧ (bs.getD i.toNat (0,0,0)).1 < ls.length) (h2 : 0 ≤ (bs.getD k.toNat (0,0,0)).1 ∧ (bs.getD k.toNat (0,0,0)).1 < ls.length) :
    bN Tryz.prog 103 [.i i,.i k,.pr [.rowE (jE ls) 3] 0,.pr [.rowE (eY bs) 3] 0] [] (.i (BK (KS ls bs i) (KS ls bs k))) [] := by
  have hll := qM ls;have hbb := jG bs;have q1 := T9 hi.1 hi.2;have q2 := T9 hk.1 hk.2;unfold KS;generalize bs.getD i.toNat (0,0,0) = x at *;generalize bs.getD k.toNat (0,0,0) = y at *;have q3 := R7 h1.1 h1.2;have q4 := R7 h2.1 h2.2;generalize ls.getD x.1.toNat (0,0,false) = u at *;generalize ls.getD y.1.toNat (0,0,false) = v at *;have hc := TJ u.2.1 v.2.1;refine dR T Tryz.func103 rfl rfl rfl rfl ?_
  (repeat' (first|refine wS ?_|refine wR ?_|(refine rg 0 (aV ?_))|(refine eN (id := 1) 26 [[],[],[],[1,2],[1,2,3],rM 1 4,rN 6,rN 7,rN 8,[],[],[],[10,11],[10,11,12],rM 10 4,rM 9 6,rM 9 7,rM 9 8,rN 18] (rM 7 19) [[],[7],[7,8],[7],[7],[7],[],[],[],rM 7 9,rM 7 10,rM 7 11,rM 7 10,rM 7 10,rM 7 10,rM 7 9,rM 7 9,rM 7 9,[]] fH rfl (by decide +kernel) (dO T rfl (dO T rfl (dN rfl (dV rfl (ix T rfl (by omega) (pX bs) q1) (dP T rfl (dO T rfl (dV rfl (ix T rfl (by omega) (zD ls) q3) (dP T rfl (dL T ?_)))))))));refine dO T rfl (dO T rfl (dN rfl (dV rfl (ix T rfl (by omega) (pX bs) q2) (dP T rfl (dO T rfl (dV rfl (ix T rfl (by omega) (zD ls) q4) (dP T rfl (dO T rfl (dV rfl (kC (hc)) ?_)))))))));refine dE ?_;refine aV ?_)|refine nZ ?_));all_goals first | (exfalso;omega) | exact rQ
theorem GH {F : FuncId} {caps : List AV} {key : Int → Int} (l : List Int) (hl : l.length ≤ 20) (hi : AV.idfL caps = true)
    (hF : ∀ x y,x ∈ l → y ∈ l → bN Tryz.prog F (.i x :: .i y :: caps) [] (.i (BK (key x) (key y))) []) :
    bN Tryz.prog 119 [.sl 0 0 l.length 1,.i l.length,.clo (.func F) [] caps] [.arr (gI l) 1] (.tup []) [.arr (gI (kD key l)) 1] := by
  have hs : (kD key l).length = l.length := qE;by_cases h0 : l.length = 0
  · obtain rfl : l = [] := iX.1 h0;have c1 := O3 (F := F) (caps := caps) [] (by decide) hi
    refine dR T Tryz.func119 rfl rfl rfl rfl ?_
    (repeat' (first|refine wS ?_|refine wB ?_|(refine rg 0 (aV ?_))|(refine rg 1 (mW rfl (nS ?_)))|refine nZ ?_));refine eZ (X := Unit) (fun _ => [(0,.sl 0 0 0 1),(1,.i 0),(2,.clo (.func F) [] caps),(6,.i 20),(7,.i 0),(8,.i 20)]) (fun _ => [.arr (gI []) 1]) (fun _ => 0) () ⟨[0],rfl,⟨rfl,rfl,by rw [fR hi];rfl,rfl,rfl,rfl,trivial⟩,⟨.inr rfl,trivial⟩,by decide,wD⟩ ?_
    intro _;dsimp only
    (repeat' (first|refine wS ?_|refine wB ?_|refine wE ?_|refine wU ?_|(refine rg 2 (fI rfl (vV (iN rfl rfl) ?_)))|(refine rg 6 (fI rfl (fI rfl (cT [0] rfl rfl c1 (by simp only [AV.mapL,fR hi];rfl) rfl (by decide) ⟨.inr rfl,trivial⟩ (by simp) rfl ?_))))|refine nZ ?_));all_goals try (exfalso;omega)
    refine eZ (X := Unit) (fun _ => [(0,.sl 0 0 0 1),(1,.i 0),(6,.i 20)]) (fun _ => [.arr (gI []) 1]) (fun _ => 0) () ⟨[0],rfl,⟨rfl,rfl,rfl,trivial⟩,⟨.inr rfl,trivial⟩,by decide,wD⟩ ?_
    intro _;dsimp only
    (repeat' (first|refine wS ?_|refine wE ?_|refine wU ?_|(refine rg 7 (fI rfl (vV (bC rfl rfl) ?_)))|refine nZ ?_));all_goals first | (exfalso;omega) | exact ⟨.inl rfl,[0],_,rfl,rfl,rfl,⟨.inr rfl,trivial⟩,by decide,wD⟩ | exact ⟨.inr rfl,[0],_,rfl,rfl,rfl,⟨.inr rfl,trivial⟩,by decide,wD⟩
  have hn : 0 < l.length := by omega
  have c2 := SU (F := F) (caps := caps) (key := key) l (by omega) hn hi hF
  have c3 := O3 (F := F) (caps := caps) (kD key l) (by omega) hi
  rw [hs] at c3;rcases fT l.length 20 with hlt | hge
  · refine dR T Tryz.func119 rfl rfl rfl rfl ?_
    (repeat' (first|refine wS ?_|refine wB ?_|(refine rg 0 (aV ?_))|(refine rg 1 (mW rfl (nS ?_)))|refine nZ ?_));refine eZ (X := Unit) (fun _ => [(0,.sl 0 0 l.length 1),(1,.i l.length),(2,.clo (.func F) [] caps),(6,.i 20),(7,.i 0),(8,.i 20)]) (fun _ => [.arr (gI l) 1]) (fun _ => 0) () ⟨[0],rfl,⟨rfl,rfl,by rw [fR hi];rfl,rfl,rfl,rfl,trivial⟩,⟨.inr (cS rfl rfl (fC _)),trivial⟩,by decide,wD⟩ ?_
    intro _;dsimp only
    (repeat' (first|refine wS ?_|refine wB ?_|refine wE ?_|(refine wC rfl ?_ ?_<;>(intro hb;(try simp only [nm] at hb);try (exfalso;omega)))|(refine rg 2 (fI rfl (vV (iN rfl rfl) ?_)))|(refine rg 6 (fI rfl (fI rfl (cT [0] rfl rfl c2 (by simp only [AV.mapL,fR hi];rfl) rfl (by decide) ⟨.inr (cS rfl rfl (fC _)),trivial⟩ (by simp) rfl ?_))))|refine nZ ?_));all_goals try (exfalso;omega)
    refine eZ (X := Unit) (fun _ => [(0,.sl 0 0 l.length 1),(1,.i l.length),(6,.i 20)]) (fun _ => [.arr (gI (kD key l)) 1]) (fun _ => 0) () ⟨[0],rfl,⟨rfl,rfl,rfl,trivial⟩,⟨.inr (cS rfl (gS _ (fC _)) (fC _)),trivial⟩,by decide,wD⟩ ?_
    intro _;dsimp only
    (repeat' (first|refine wS ?_|refine wE ?_|(refine wC rfl ?_ ?_<;>(intro hb;(try simp only [nm] at hb);try (exfalso;omega)))|(refine rg 7 (fI rfl (vV (bC rfl rfl) ?_)))|refine nZ ?_));all_goals first | (exfalso;omega) | exact ⟨.inl rfl,[0],_,rfl,rfl,rfl,⟨.inr (cS rfl rfl (fC _)),trivial⟩,by decide,wD⟩ | exact ⟨.inr rfl,[0],_,rfl,rfl,rfl,⟨.inr (cS rfl rfl (fC _)),trivial⟩,by decide,wD⟩
  · have h20 : l.length = 20 := by omega
    refine dR T Tryz.func119 rfl rfl rfl rfl ?_
    (repeat' (first|refine wS ?_|refine wB ?_|(refine rg 0 (aV ?_))|(refine rg 1 (mW rfl (nS ?_)))|refine nZ ?_));refine eZ (X := Bool) (fun b => [(0,.sl 0 0 l.length 1),(1,.i l.length),(2,.clo (.func F) [] caps),(6,.i 20),(7,.i (cond b 20 0)),(8,.i (cond b 40 20))]) (fun b => [.arr (gI (cond b (kD key l) l)) 1]) (fun b => cond b 0 1) false ⟨[0],rfl,⟨rfl,rfl,by rw [fR hi];rfl,rfl,rfl,rfl,trivial⟩,⟨.inr (cS rfl rfl (fC _)),trivial⟩,by decide,wD⟩ ?_
    rw [h20] at c2 c3;rintro (_ | _)
    · dsimp only [cond]
      (repeat' (first|refine wS ?_|refine wB ?_|refine wK ?_|(refine wC rfl ?_ ?_<;>(intro hb;(try simp only [nm] at hb);try (exfalso;omega)))|(refine rg 2 (fI rfl (vV (iN rfl rfl) ?_)))|(refine rg 3 (fI rfl (fI rfl (cT [0] rfl rfl c2 (by rw [h20];simp only [AV.mapL,fR hi];rfl) rfl (by decide) ⟨.inr (cS rfl rfl (fC _)),trivial⟩ (by simp) rfl ?_))))|(refine rg 4 (mW rfl (aV ?_)))|(refine rg 5 (fI rfl (vV (eC rfl rfl (by omega) (by omega)) (aV ?_))))|refine nZ ?_));all_goals first | (exfalso;omega) | exact ⟨true,by decide,⟨[0],rfl,⟨rfl,rfl,by rw [fR hi];rfl,rfl,rfl,rfl,trivial⟩,⟨.inr (cS rfl (gS _ (fC _)) (fC _)),trivial⟩,by decide,wD⟩⟩
    · dsimp only [cond]
      (repeat' (first|refine wS ?_|refine wB ?_|refine wE ?_|(refine wC rfl ?_ ?_<;>(intro hb;(try simp only [nm] at hb);try (exfalso;omega)))|(refine rg 2 (fI rfl (vV (iN rfl rfl) ?_)))|(refine rg 6 (fI rfl (fI rfl (cT [0] rfl rfl c3 (by rw [h20];simp only [AV.mapL,fR hi];rfl) rfl (by decide) ⟨.inr (cS rfl rfl (fC _)),trivial⟩ (by simp) rfl ?_))))|refine nZ ?_));all_goals try (exfalso;omega)
      refine eZ (X := Unit) (fun _ => [(0,.sl 0 0 l.length 1),(1,.i l.length),(6,.i 20)]) (fun _ => [.arr (gI (kD key l)) 1]) (fun _ => 0) () ⟨[0],rfl,⟨rfl,rfl,rfl,trivial⟩,⟨.inr (cS rfl (gS _ (fC _)) (fC _)),trivial⟩,by decide,wD⟩ ?_
      intro _;dsimp only
      (repeat' (first|refine wS ?_|refine wE ?_|(refine wC rfl ?_ ?_<;>(intro hb;(try simp only [nm] at hb);try (exfalso;omega)))|(refine rg 7 (fI rfl (vV (bC rfl rfl) ?_)))|refine nZ ?_));all_goals first | (exfalso;omega) | exact ⟨.inl rfl,[0],_,rfl,rfl,rfl,⟨.inr (cS rfl rfl (fC _)),trivial⟩,by decide,wD⟩ | exact ⟨.inr rfl,[0],_,rfl,rfl,rfl,⟨.inr (cS rfl rfl (fC _)),trivial⟩,by decide,wD⟩
theorem J3 {F : FuncId} {caps : List AV} {key : Int → Int} (l : List Int) (hl : l.length ≤ 20) (hi : AV.idfL caps = true)
    (hF : ∀ x y,x ∈ l → y ∈ l → bN Tryz.prog F (.i x :: .i y :: caps) [] (.i (BK (key x) (key y))) []) :
    bN Tryz.prog 102 [.sl 0 0 l.length 1,.clo (.func F) [] caps] [.arr (gI l) 1] (.tup []) [.arr (gI (kD key l)) 1] := by
  have c1 := GH (F := F) (caps := caps) (key := key) l hl hi hF;refine dR T Tryz.func102 rfl rfl rfl rfl ?_
  (repeat' (first|(refine rg 0 (fI rfl (qW T rfl (mW rfl (cT [0] rfl rfl c1 (by simp only [AV.mapL,fR hi];rfl) rfl (by decide) ⟨.inr (cS rfl rfl (fC _)),trivial⟩ (by simp) rfl ?_)))))|refine nZ ?_));all_goals first | (exfalso;omega) | exact ⟨.inl rfl,[0],_,rfl,rfl,rfl,⟨.inr (cS rfl (gS _ (fC _)) (fC _)),trivial⟩,by decide,wD⟩ | exact ⟨.inr rfl,[0],_,rfl,rfl,rfl,⟨.inr (cS rfl (gS _ (fC _)) (fC _)),trivial⟩,by decide,wD⟩
theorem OO (ls : List Lo) (bs : List Bo) (w : Wt) (hl : ls.length ≤ 1000000) (hb : bs.length ≤ 20) (hk : V4 ls bs) :
    bN Tryz.prog 54 [.rowE (jE ls) 3,.rowE (eY bs) 3,.agg [.i w.1,.i w.2.1,.i w.2.2]] [] (.sl 0 0 (rL ls bs w).length 1) [.arr (gI (rL ls bs w)) 1] := by
  have hll := qM ls;have hbb := jG bs;have hsl := E1 (ls := ls) (bs := bs) (w := w) (n := bs.length);have hso : (rL ls bs w).length = (vC ls bs w bs.length).length := qE;have hmem : ∀ x,x ∈ vC ls bs w bs.length → (0 ≤ x ∧ x < bs.length) ∧ 0 ≤ (bs.getD x.toNat (0,0,0)).1 ∧ (bs.getD x.toNat (0,0,0)).1 < ls.length := fun x hx => by
    have h1 := wQ.1 (show x ∈ rL ls bs w from yI.2 hx)
    refine ⟨h1.1,?_,(hk x.toNat (by omega)).2⟩
    have h2 := h1.2.2;unfold mY at h2;simp only [aL,decide_eq_true_eq] at h2;exact h2.1
  have hsrt := J3 (F := 103) (caps := [.pr [.rowE (jE ls) 3] 0,.pr [.rowE (eY bs) 3] 0]) (key := KS ls bs) (vC ls bs w bs.length) (by omega) rfl fun x y hx hy =>
    SN ls bs x y hl (by omega) (hmem x hx).1 (hmem y hy).1 (hmem x hx).2 (hmem y hy).2
  refine dR T Tryz.func54 rfl rfl rfl rfl ?_
  (repeat' (first|refine wS ?_|(refine rg 0 (dX (gV rfl rfl) rfl (dX (gV rfl rfl) rfl (dX (gV rfl rfl) rfl (aV ?_)))))|refine nZ ?_));refine iM 3 (cs := [.rowE (jE ls) 3]) rfl rfl rfl ?_
  refine iM 4 (cs := [.rowE (eY bs) 3]) rfl rfl rfl ?_;refine iM 5 (cs := [.i w.1,.i w.2.1,.i w.2.2]) rfl rfl rfl ?_
  (repeat' (first|refine wS ?_|(refine rg 1 (aV ?_))|refine nZ ?_));refine U4 7 1 rfl (by decide) ?_
  (repeat' (first|refine wB ?_|(refine rg 2 (lW T rfl (qW T rfl (mV ?_))))|refine nZ ?_));refine eZ (X := {k : Nat // k ≤ bs.length}) (fun k => [(3,.pr [.rowE (jE ls) 3] 0),(4,.pr [.rowE (eY bs) 3] 0),(5,.pr [.i w.1,.i w.2.1,.i w.2.2] 0),(7,.sl 0 0 (vC ls bs w k.1).length 1),(10,.rowE (eY bs) 3),(11,.i (eY bs).length),(12,.i k.1)]) (fun k => [.arr (gI (vC ls bs w k.1)) 1]) (fun k => bs.length - k.1) ⟨0,bS _⟩ ⟨[3],rfl,by (repeat (first | exact trivial | refine ⟨rfl,?_⟩)),⟨.inr rfl,trivial⟩,by decide,nX _⟩ ?_
  rintro ⟨k,hk2⟩;dsimp only;by_cases hlt : k < bs.length
  · have hg := U0 hlt;have hsk := E1 (ls := ls) (bs := bs) (w := w) (n := k);have hss := GL (ls := ls) (bs := bs) (w := w) (k := k);have hlk := hk k hlt;have hcn : cnt bs k = (bs.getD k (0,0,0)).2.1 := by unfold cnt;rw [bU]
    rw [hcn] at hss;have hnl := uK (vC ls bs w k);generalize bs.getD k (0,0,0) = x at *;have hf := PQ ls x w hl hlk.2;generalize vC ls bs w k = S at *;by_cases hc : 0 < x.2.1 ∧ mY ls x w = true
    · rw [if_pos hc] at hss;rw [hc.2] at hf;have hc1 := hc.1;obtain ⟨xl,xc,xt⟩ := x;dsimp only at *
      (repeat' (first|refine wS ?_|refine wB ?_|refine wK ?_|refine wT ?_|(refine wC rfl ?_ ?_<;>(intro hb;(try simp only [nm] at hb);try (exfalso;omega)))|(refine rg 3 (vV (bC rfl rfl) ?_))|(refine rg 4 (mW rfl (vV (ix T rfl (by omega) (pX bs) hg) (lW T rfl (dX (cX T rfl) rfl (aW rfl (bH T rfl rfl rfl rfl rfl rfl (by decide) rfl ?_)))))))|(refine rg 5 (jP T rfl (vV (fY rfl rfl) (mV ?_)));refine bM rfl rfl ?_ ?_<;>(intro hb;rw [hb];(try simp only [nm] at hb);try (exfalso;omega));(all_goals (refine yO T rfl (yO T rfl (yO T rfl (yV (kC (hf)) (pV ?_)))))))|(refine rg 6 (fI rfl (dX (by exact cJ T rfl rfl (by decide) (by decide) rfl rfl rfl) rfl ?_));refine iP T rfl rfl rfl rfl rfl rfl (by omega) (kV.whole rfl rfl) rfl (by simp;omega) (by simp;omega) rfl ?_;refine aV ?_)|(refine rg 7 (vV (eC rfl rfl (by omega) (by omega)) (mV ?_)))|refine nZ ?_));all_goals first | (exfalso;omega) | exact ⟨⟨k + 1,hlt⟩,by dsimp only;omega,⟨[3],rfl,⟨rfl,rfl,rfl,by dsimp only;rw [hss,aC];rfl,rfl,rfl,rfl,trivial⟩,⟨.inr (cS rfl (by dsimp only;rw [hss];exact SG S _) (fC _)),trivial⟩,by decide,nX _⟩⟩
    · rw [if_neg hc] at hss;by_cases hc1 : 0 < x.2.1
      · have hf0 : mY ls x w = false := by cases e : mY ls x w with
          | false => rfl
          | true => exact absurd ⟨hc1,e⟩ hc
        rw [hf0] at hf;obtain ⟨xl,xc,xt⟩ := x;dsimp only at *
        (repeat' (first|refine wS ?_|refine wB ?_|refine wK ?_|refine wU ?_|(refine wC rfl ?_ ?_<;>(intro hb;(try simp only [nm] at hb);try (exfalso;omega)))|(refine rg 3 (vV (bC rfl rfl) ?_))|(refine rg 4 (mW rfl (vV (ix T rfl (by omega) (pX bs) hg) (lW T rfl (dX (cX T rfl) rfl (aW rfl (bH T rfl rfl rfl rfl rfl rfl (by decide) rfl ?_)))))))|(refine rg 5 (jP T rfl (vV (fY rfl rfl) (mV ?_)));refine bM rfl rfl ?_ ?_<;>(intro hb;rw [hb];(try simp only [nm] at hb);try (exfalso;omega));(all_goals (refine yO T rfl (yO T rfl (yO T rfl (yV (kC (hf)) (pV ?_)))))))|(refine rg 7 (vV (eC rfl rfl (by omega) (by omega)) (mV ?_)))|refine nZ ?_));all_goals first | (exfalso;omega) | exact ⟨⟨k + 1,hlt⟩,by dsimp only;omega,⟨[0],rfl,⟨rfl,rfl,rfl,by dsimp only;rw [hss];rfl,rfl,rfl,rfl,trivial⟩,⟨.inr (cS rfl (by dsimp only;rw [hss]) (fC _)),trivial⟩,by decide,nX _⟩⟩
      · obtain ⟨xl,xc,xt⟩ := x;dsimp only at *
        (repeat' (first|refine wS ?_|refine wB ?_|refine wK ?_|refine wU ?_|(refine wC rfl ?_ ?_<;>(intro hb;(try simp only [nm] at hb);try (exfalso;omega)))|(refine rg 3 (vV (bC rfl rfl) ?_))|(refine rg 4 (mW rfl (vV (ix T rfl (by omega) (pX bs) hg) (lW T rfl (dX (cX T rfl) rfl (aW rfl (bH T rfl rfl rfl rfl rfl rfl (by decide) rfl ?_)))))))|(refine rg 5 (jP T rfl (vV (fY rfl rfl) (mV ?_)));refine bM rfl rfl ?_ ?_<;>(intro hb;rw [hb];(try simp only [nm] at hb);try (exfalso;omega));(all_goals ((iterate 4 refine gF ?_);refine pV ?_)))|(refine rg 7 (vV (eC rfl rfl (by omega) (by omega)) (mV ?_)))|refine nZ ?_));all_goals first | (exfalso;omega) | exact ⟨⟨k + 1,hlt⟩,by dsimp only;omega,⟨[0],rfl,⟨rfl,rfl,rfl,by dsimp only;rw [hss];rfl,rfl,rfl,rfl,trivial⟩,⟨.inr (cS rfl (by dsimp only;rw [hss]) (fC _)),trivial⟩,by decide,nX _⟩⟩
  · obtain rfl : k = bs.length := by omega
    (repeat' (first|refine wS ?_|refine wR ?_|refine wE ?_|(refine wC rfl ?_ ?_<;>(intro hb;(try simp only [nm] at hb);try (exfalso;omega)))|(refine rg 3 (vV (bC rfl rfl) ?_))|(refine rg 8 (mW rfl (vV (by exact A7 rfl rfl) ?_));refine cT [0] rfl rfl hsrt (by simp only [AV.mapL];rfl) rfl (by decide) ⟨.inr (cS rfl rfl (fC _)),trivial⟩ (by simp) rfl ?_)|(refine rg 9 (mW rfl (aV ?_)))|refine nZ ?_));all_goals first | (exfalso;omega) | exact ⟨.inl rfl,[0],_,rfl,(by rw [← hso];rfl),rfl,⟨.inr (cS rfl (gS _ (fC _)) (fC _)),trivial⟩,by decide,nX _⟩
end Go.Proofs.YtdiogjgohbbllaaGreatDoor
namespace Go.Ab
open Go
theorem E6 {α : Type} : ∀ (xs A B C : List α), B.length = xs.length → gH (A ++ B ++ C) A.length xs = A ++ xs ++ C
  | [],A,B,C,h => by
    have : B = [] := bP h;subst this;simp [gH]
  | x :: xs,A,[],C,h => by simp at h
  | x :: xs,A,b :: B,C,h => by
    have e : (A ++ (b :: B) ++ C).set A.length x = (A ++ [x]) ++ B ++ C := by simp
    have ih := E6 xs (A ++ [x]) B C (by simpa using h)
    rw [aC,cF] at ih;show gH ((A ++ (b :: B) ++ C).set A.length x) (A.length + 1) xs = _;rw [e,ih];simp
theorem Z3 {α : Type} {xs B : List α} (h : B.length = xs.length) : gH B 0 xs = xs := by
  have := E6 xs [] B [] h;simpa using this
section
variable {P : Program} {n : Nat × Nat} {ops : Array Oper} {rest : List Oper} {env : cI} {h : Hp} {K : cI → Hp → Prop}
variable {ty : TypeId} {pos : String} {af : Array Edge}
theorem NT (T : lK P) {t e k m sz dd : Nat} {ats : Array TypeId} {i : TI} {x y : Operand} {v : AV} {ds es : List (List AV)} (hx : evu env x = some (.sl k 0 m sz)) (hy : evu env y = some v) (hat : ats[0]? = some t) (ht : T.elem t = some e) (he : T.ti e = some i) (hs : i.size = sz)
    (hkk : h[k]? = some (.arr ds sz)) (hn : kV h v es sz) (h1 : es.flatten.all AV.one = true) (hd1 : ds.length = m) (hd2 : es.length = m) (hd : yU (some dd) n = true)
    (hk : VC P n ops rest ((dd,.i m) :: env) (h.set k (.arr es sz)) K) :
    VC P n ops (⟨some dd,.call { callee := .builtin .copy,args := #[x,y],argTypes := ats },ty,pos,af,none⟩ :: rest) env h K := by
  intro c ρ S a w Q s hQ;refine wpList_plain rfl fun K' hK' => ?_
  have p := s.pre;have hxv := p.evu hx;obtain ⟨a2,c2,zs,y1,y2,y3,y4,y5,y6,y7⟩ := oM p.blk (p.evu hy) hn;obtain ⟨inf,z,t1,t2,t3,t4,t5,t6,t7⟩ := T.tiOk e i he;have hone := wV y6 h1;have hB := p.blk k _ hkk;simp only [RB] at hB;obtain ⟨hes,hs0,hB⟩ := hB;have hel : ∀ q,q ∈ es → q.length = sz := by
    cases hn with
    | sl hk2 _ =>
      have := p.blk _ _ hk2;simp only [RB] at this;exact fun q hq => this.1 q (gC (gB hq))
    | row h => exact h
    | nil => exact fun q hq => by cases hq
  simp only [R] at hxv;obtain ⟨a1,c1,x1,x2,x3⟩ := hxv;rw [hd2] at y1 y5 y7;have hf := oI (P := P) (w := w) (size := inf.size) (m := m) (cap := c2) (a := a2) (by rw [t2,hs];exact y5) y7
  have ev1 : ∀ r w',(Builtin.copy_ ats ty #[a.eval x,a.eval y]).run P w = .ok r w' → (execOp a.eval ⟨some dd,.call { callee := .builtin .copy,args := #[x,y],argTypes := ats },ty,pos,af,none⟩).run P w = .ok (.value r) w' := fun r w' hr => by
    simp [execOp,resolve,invoke,builtin,hr]
  have hund := run_underlying (P := P) (T.elemOk _ _ ht) w;have hsz : (sizeOf e).run P w = .ok inf.size w := by simp [sizeOf,typeInfo,t1]
  by_cases hm : m = 0
  · subst hm;have hz : zs = [] := bP (by rw [y5];simp)
    subst hz;have hde : ds = [] := bP hd1;have hee : es = [] := bP hd2;subst hde hee;have hset : h.set k (.arr [] sz) = h := by
      apply cU;intro j;rw [bR];split
      · rename_i e;subst e;rw [hkk];simp [(aA.1 hkk).1]
      · rfl
    have hr : (Builtin.copy_ ats ty #[a.eval x,a.eval y]).run P w = .ok (.int .i64 0) w := by
      rw [x1,y1];cases a1 with
      | none => simp [Builtin.copy_,hat,hund,Builtin.lenOf,hsz,hf,goInt,Nat.min_def]
      | some a1 => simp [Builtin.copy_,hat,hund,Builtin.lenOf,hsz,hf,storeCells,goInt,Nat.min_def]
    unfold Oper.wp;rw [ev1 _ _ hr];rw [hset] at hk;exact hK' _ _ (hk c ρ S _ w Q ⟨by rw [gA];exact s.size,by rw [eM];exact s.defers,kH s.size hd s.env (by simp [R]),s.hs,s.cm⟩ hQ)
  · rcases x3 with ⟨x3,_⟩ | ⟨b,o,x4,x5,x6,x7⟩
    · exact absurd x3 hm
    rw [XZ,Nat.add_zero] at x5;rcases hB with ⟨hB,_⟩ | ⟨b',o',ys,z1,⟨cc,ee,z2,z3⟩,z4⟩
    · subst hB;exact absurd hd1.symm hm
    rw [x4] at z1;cases z1;have hyl := dU z4;have hfl := dS hes;have hfl2 := dS hel;have hzl : zs.length = ys.length := by rw [y5,hyl,hfl,hd1]
    have hzp : 0 < zs.length := by rw [y5];exact Nat.mul_pos (by omega) hs0
    obtain ⟨f1,f2,f3⟩ := tR (off := 0) (zs := zs) z2 z3 (by omega) hzp
    have hst := run_storeCells_at P b o ee zs 0 cc w z2 (by simpa using f1) hone
    simp only [Nat.add_zero] at hst f1 f2 f3;have hr : (Builtin.copy_ ats ty #[a.eval x,a.eval y]).run P w = .ok (.int .i64 m) (w.setRow b (cc.toList.take o ++ zs ++ cc.toList.drop (o + zs.length)).toArray) := by
      rw [x1,y1,x5];simp [Builtin.copy_,hat,hund,Builtin.lenOf,hsz,hf,hst,goInt,Nat.min_def]
    unfold Oper.wp;rw [ev1 _ _ hr]
    obtain ⟨g1,g2⟩ := s.hs.upd (nb := .arr es sz) hkk (by simp) x4 (mC z2 f3) (fun l => by
      simp only [RB];refine ⟨hel,hs0,.inr ⟨b,o,_,rfl,f2,?_⟩⟩;rw [Z3 (xs := zs) (B := ys) hzl.symm]
      exact y6.later l)
    exact hK' _ _ (hk c ρ S _ _ Q ⟨by rw [gA];exact s.size,by rw [eM];exact s.defers.later g2,kH s.size hd (fun tt uu huu => (s.env tt uu huu).later g2) (by simp [R]),g1,s.cm⟩ hQ)
end
def WN {P : Program} (T : lK P) (rs : List ResultVar) (Φ : AV → Hp → Prop) (e : Exit) (v : cI) (h : Hp) : Prop := (e = .ret ∨ e = .normal) ∧ ∃ xs,pI T v h rs = some xs ∧ Φ (qJ xs) h
theorem jN {P : Program} (T : lK P) {f : FuncId} {fn : Func} {code : Code} {n : Nat} {args : List AV} {hin : Hp} {Φ : AV → Hp → Prop} (hf : P.funcs[f]? = some fn) (hb : fn.body = some code) (hnm : (fn.name == "runtime.NumGoroutine") = false) (hn : fn.ntmps = n) (ha : Nat.ble args.length n = true)
    (haw : AW P (n,hin.length) code (nR 0 args) hin (WN T fn.results.toList Φ)) : eT P f args hin Φ := by
  refine ⟨⟨fn,hf,hnm,by rw [hb];rfl⟩,?_⟩
  intro ρ S w vs hs hargs;have hlen := dU hargs;have hle := aU ha;refine (callsIn_wide (n := 0)).1 (callsIn_of_wp_marks (F := Fence.wide) hf hb trivial ?_ rfl);refine haw (gG w ρ S hin) ρ S _ w _ ⟨?_,oA.nil rfl _ _,fun t x hx => ?_,hs,rfl⟩ ?_
  · simp [hn];omega
  · obtain ⟨_,h1⟩ := pO hx;simp only [YA] at h1;obtain ⟨y,h2,h3⟩ := kU hargs t x h1;have hlt : t < vs.length := (aA.1 h2).1;have : (vs.toArray ++ Array.replicate (fn.ntmps - vs.toArray.size) undef).getD t undef = y := by
      rw [cC,jV (by simpa using hlt)]
      simp [h2]
    rw [this];exact h3
  · intro e env' h' ρ' S' a' w' hq s;obtain ⟨he,xs,h1,hΦ⟩ := hq;have fin : ∀ S2 w2,HS (gG w ρ S hin) ρ' S2 h' w2 → (∀ x y,R S' w' x ρ' y → R S2 w2 x ρ' y) → ∃ v,(results fn a'.tmps).run P w2 = .ok v w2 ∧ (fun e w' => ∃ res hout,Φ res hout ∧ ∃ y ρ' S',e = Ending.returned y ∧ HS (gG w ρ S hin) ρ' S' hout w' ∧ R S' w' res ρ' y) (.returned v) w2 := fun S2 w2 s2 hr => by
      obtain ⟨ys,h7,h8⟩ := nI T s2.blk (fun t x hx => hr _ _ (s.env t x hx)) h1;have hres : ∃ y,(results fn a'.tmps).run P w2 = .ok y w2 ∧ R S2 w2 (qJ xs) ρ' y := by
        have hm : (fn.results.mapM (oQ a'.tmps)).run P w2 = .ok ys.toArray w2 := by
          rw [zQ];simp only [Sem.run_map,h7,Result.andThen_ok]
        have hl := dU h8;rw [vH];simp only [Sem.run_bind,hm,Result.andThen_ok,Sem.run_pure];refine ⟨_,rfl,?_⟩
        match xs,ys,h8,hl with
        | [x],[y],h8,_ =>
          simp only [RL] at h8;obtain ⟨y',zs,e1,h9,_⟩ := h8;cases e1;simpa [qJ] using h9
        | [],[],h8,_ =>
          simp only [qJ,R];exact ⟨#[],by simp,by simp [RL]⟩
        | x :: x2 :: xs,y :: y2 :: ys,h8,_ =>
          simp only [qJ,R];refine ⟨(y :: y2 :: ys).toArray,?_,by simpa using h8⟩
          rw [dif_neg (by simp)]
      obtain ⟨y,h9,h10⟩ := hres;exact ⟨y,h9,qJ xs,h',hΦ,y,_,S2,rfl,s2,h10⟩
    obtain ⟨⟨D,hD1,hD2,hD3⟩,_⟩ := s.defers;have hl : LeavesInM Fence.wide 0 P fn a'.tmps (fun e w' => ∃ res hout,Φ res hout ∧ ∃ y ρ' S',e = Ending.returned y ∧ HS (gG w ρ S hin) ρ' S' hout w' ∧ R S' w' res ρ' y) a'.defers .returning w' := by
      rw [hD1];exact tQ (c := gG w ρ S hin) (aO _) (fun b hb => hs.stab b hb) D S' w' s.hs hD2 hD3 fin
    rcases he with rfl | rfl
    · exact hl
    · exact hl
theorem BJ {l : List Oper} {pres : List (List Nat)} {ds : List Nat} {bads : List (List Nat)} {n s k s2 k2 : Nat} (h : iL l pres ds bads n = true) (hs : Nat.blt s pres.length = true) (hs2 : Nat.blt s2 pres.length = true) (hne : Nat.beq s2 s = false) (hr : (pres.getD s2 []).any (Nat.beq s) = true) :
    fJ l pres ds bads [(s,k),(s2,k2)] n = true := by
  simp only [fJ,CH,h,hs,hs2,hne,hr,GA,List.all_nil,Bool.not_false,nW,Bool.and_true,pE]
theorem IV {h : Hp} {k off : Nat} {cs xs : List AV} (hk : h[k]? = some (.cells cs)) (hl : Nat.ble (off + xs.length) cs.length = true) : J2 h (.ptr k off) xs = some (k,.cells (gH cs off xs)) := by simp only [J2,hk,hl]
theorem tH {P : Program} {env : cI} {h : Hp} {d : Option Nat} {ty : TypeId} {pos : String} {af : Array Edge} {g : Option (Nat × Bool)} {x : Operand} {u z : AV} (hx : evu env x = some u) (hz : u.plus 0 = some z) : FZ P ⟨d,.nilCheck x,ty,pos,af,g⟩ env h u := by
  intro ρ S a w p;obtain ⟨b,o,h1,h2⟩ := tI (p.evu hx) hz;have h3 := p.evu hx;rw [h1] at h3;exact ⟨_,fun w' => by simp [execOp,h1],h3⟩
end Go.Ab
namespace Go.Ab
theorem bO {H Z : Hp} {k : Nat} {b : AB} (h : H[k]? = some b) : (H ++ Z)[k]? = some b := by
  rw [aG (aA.1 h).1];exact h
theorem fQ {H : Hp} {k q : Nat} {b x : AB} (hk : k ≠ q) (h : H[k]? = some b) : (H.set q x)[k]? = some b := by
  rw [gD (Ne.symm hk)];exact h
theorem fU {H : Hp} {q : Nat} {x : AB} (h : q < H.length) : (H.set q x)[q]? = some x := by
  rw [fG h]
theorem cK {H : Hp} {b : AB} : (H ++ [b])[H.length]? = some b := by simp
theorem vG {H Z : Hp} (h : NP H) (z : NP Z) : NP (H ++ Z) := fun b hb => by
  rcases bD.1 hb with hb | hb
  · exact h b hb
  · exact z b hb
theorem vE {b : AB} (h : b.rf = true) : NP [b] := fun x hx => by rw [bE.1 hx];exact .inr h
theorem DB {H : Hp} {q : Nat} {x : AB} (h : NP H) (z : x = .gone ∨ x.rf = true) : NP (H.set q x) := fun b hb => by
  obtain ⟨j,hj⟩ := bX.1 hb;rw [bR] at hj;split at hj
  · split at hj
    · cases hj;exact z
    · cases hj
  · exact h b (aH hj)
end Go.Ab
namespace Go.Or
open Go Go.Ab
theorem RP (l : List Tk) : (AB.arr (eO l) 2).rf = true := aT.2 fun e he => by obtain ⟨i,_,rfl⟩ := aJ.1 he;rfl
theorem DC (l : List Bo) : (AB.arr (eY l) 3).rf = true := aT.2 fun e he => by obtain ⟨i,_,rfl⟩ := aJ.1 he;rfl
theorem RS (N : List (Nat × List Tk)) : (AB.arr (kN N) 1).rf = true := aT.2 fun e he => by obtain ⟨i,_,rfl⟩ := aJ.1 he;rfl
theorem FR (l : List Bo) : AV.plOL (eY l).flatten = true := F0 (fun _ => rfl) _
theorem IY (l : List Tk) (x : Tk) : (List.take l.length (List.drop 0 (eO l))) ++ [[AV.i x.1,AV.i x.2]] = eO (l ++ [x]) := by
  rw [dI,bA (by simp)];simp
theorem MG {bs : List Bo} {j : Int} {x : Bo} : (eY bs).set j.toNat [AV.i x.1,AV.i x.2.1,AV.i x.2.2] = eY (bs.set j.toNat x) := by
  show _ = List.map (fun b : Bo => [AV.i b.1,AV.i b.2.1,AV.i b.2.2]) (bs.set j.toNat x);rw [nU]
theorem pQ.more {X Y : Hp} {N : List (Nat × List Tk)} (h : pQ X N) (hf : ∀ e,e ∈ N → ∀ b,X[e.1]? = some b → Y[e.1]? = some b) : pQ Y N := fun e he => by
  exact hf e he _ (h e he)
structure NQ (left0 : List Bo) (ord : List Int) (need0 : Int) (N : List (Nat × List Tk)) (p : Nat) (X : Hp) (j : Nat) (left : List Bo) (tk : List Tk) (need : Int) (q : Nat) : Prop where
  jl : j ≤ ord.length
  eq : kB ord left0 need0 = (tk ++ (kB (ord.drop j) left need).1,(kB (ord.drop j) left need).2)
  len : left.length = left0.length
  nn : ∀ b : Int,0 ≤ b → 0 ≤ cnt left b ∧ cnt left b ≤ 20000
  lot : ∀ b : Int,0 ≤ b → (left.getD b.toNat (0,0,0)).1 = (left0.getD b.toNat (0,0,0)).1
  n0 : 0 ≤ need ∧ need ≤ 20000
  tl : tk.length ≤ j
  h0 : X[0]? = some (.arr (eY left) 3)
  hp : X[p]? = some (.arr (kN N) 1)
  hn : pQ X N
  hq : X[q]? = some (.arr (eO tk) 2)
  nd : (0 :: p :: q :: N.map (·.1)).Nodup
  rf : NP X
theorem CS {i : Int} {l : List Int} {left : List Bo} {need : Int} (h : min need (cnt left i) ≠ 0) : kB (i :: l) left need =
    ((i,min need (cnt left i)) :: (kB l (qQ left i (min need (cnt left i))) (need - min need (cnt left i))).1,(kB l (qQ left i (min need (cnt left i))) (need - min need (cnt left i))).2) := by
  rw [kB,if_neg h]
theorem NQ.next {left0 : List Bo} {ord : List Int} {need0 : Int} {N : List (Nat × List Tk)} {p : Nat} {X : Hp} {j : Nat} {left : List Bo} {tk : List Tk} {need : Int} {q : Nat} (h : NQ left0 ord need0 N p X j left tk need q)
    (hj : j < ord.length) (ho : ∀ i,i ∈ ord → 0 ≤ i ∧ i < left0.length) (hm : min need (cnt left ord[j]) ≠ 0) :
    NQ left0 ord need0 N p (((X ++ [AB.arr [[AV.i ord[j],AV.i (min need (cnt left ord[j]))]] 2]).set q AB.gone ++ [AB.arr (eO (tk ++ [(ord[j],min need (cnt left ord[j]))])) 2]).set 0 (AB.arr (eY (qQ left ord[j] (min need (cnt left ord[j])))) 3)) (j + 1) (qQ left ord[j] (min need (cnt left ord[j]))) (tk ++ [(ord[j],min need (cnt left ord[j]))]) (need - min need (cnt left ord[j])) (X ++ [AB.arr [[AV.i ord[j],AV.i (min need (cnt left ord[j]))]] 2]).length := by
  obtain ⟨i0,i1⟩ := ho _ (aK hj);have hd := aS hj;have heq := h.eq;rw [hd,CS hm] at heq;have hil : ord[j] < left.length := by rw [h.len];exact i1
  have hc := h.nn ord[j] i0;have hn0 := h.n0;generalize ord[j] = i at *;have hnn : 0 ≤ min need (cnt left i) ∧ min need (cnt left i) ≤ need ∧ min need (cnt left i) ≤ cnt left i := by omega
  generalize min need (cnt left i) = n at *;have hnd := h.nd;simp only [aN,aQ,not_or] at hnd;obtain ⟨⟨a1,a2,a3⟩,⟨a4,a5⟩,a6,a7⟩ := hnd;have hql := (aA.1 h.hq).1;have hpl := (aA.1 h.hp).1;have h0l := (aA.1 h.h0).1;have hnl : ∀ e,e ∈ N → e.1 < X.length := fun e he => by
    have h1 := h.hn e he;exact (aA.1 h1).1
  have hmem : ∀ e,e ∈ N → e.1 ∈ N.map (·.1) := fun e he => aJ.2 ⟨e,he,rfl⟩
  have keep : ∀ {k : Nat} {b : AB},X[k]? = some b → k ≠ q → k ≠ 0 → ((((X ++ [AB.arr [[AV.i i,AV.i n]] 2]).set q AB.gone) ++ [AB.arr (eO (tk ++ [(i,n)])) 2]).set 0 (AB.arr (eY (qQ left i n)) 3))[k]? = some b := fun hk h1 h2 =>
    fQ h2 (bO (fQ h1 (bO hk)))
  refine ⟨hj,by rw [heq];simp,by rw [xM];exact h.len,fun b hb => ?_,fun b hb => ?_,by omega,?_,fU (by simp),keep h.hp (fun e => a4 e) (fun e => a1 e.symm),?_,?_,?_,?_⟩
  · rw [xN i0 hil hb];have := h.nn b hb;split <;> omega
  · rw [xL i0 hil hb];exact h.lot b hb
  · rw [aC,cF];have := h.tl;omega
  · exact h.hn.more fun e he b hb => keep hb (fun e1 => a6 (e1 ▸ hmem e he)) (fun e1 => a3 (e1 ▸ hmem e he))
  · refine fQ (by simp) ?_
    have e1 : (X ++ [AB.arr [[AV.i i,AV.i n]] 2]).length = ((X ++ [AB.arr [[AV.i i,AV.i n]] 2]).set q .gone).length := by simp
    rw [e1];exact cK
  · have hz : (X ++ [AB.arr [[AV.i i,AV.i n]] 2]).length = X.length + 1 := by simp
    rw [hz];simp only [aN,aQ,not_or];refine ⟨⟨a1,by omega,a3⟩,⟨by omega,a5⟩,fun hm => ?_,a7⟩
    obtain ⟨e,he,e1⟩ := aJ.1 hm;have := hnl e he;omega
  · exact DB (vG (DB (vG h.rf (vE rfl)) (.inl rfl)) (vE (RP _))) (.inr (DC _))
structure V3 (ls : List Lo) (bs : List Bo) (ws : List Wt) (k : Nat) (left : List Bo) (N : List (Nat × List Tk)) (p : Nat) (X : Hp) : Prop where
  kl : k ≤ ws.length
  eq : oS ls bs ws = (oS ls left (ws.drop k)).map (N.map (·.2) ++ ·)
  nl : N.length = k
  len : left.length = bs.length
  nn : ∀ b : Int,0 ≤ b → 0 ≤ cnt left b ∧ cnt left b ≤ 20000
  lot : ∀ b : Int,0 ≤ b → (left.getD b.toNat (0,0,0)).1 = (bs.getD b.toNat (0,0,0)).1
  h0 : X[0]? = some (.arr (eY left) 3)
  hp : X[p]? = some (.arr (kN N) 1)
  hn : pQ X N
  nd : (0 :: p :: N.map (·.1)).Nodup
  rf : NP X
def VU (ls : List Lo) (bs : List Bo) (ws : List Wt) (r : AV) (o : Hp) : Prop := ∃ x A,r = .tup [x,.i (pK ls bs ws).1] ∧ jZ o x (pK ls bs ws).2 A ∧ r.rf = true ∧ NP o
end Go.Or
namespace Go.Proofs.YtdiogjgohbbllaaGreatDoor
open Go Go.Ab Go.Or
attribute [local irreducible] VC AW bQ bN eT
set_option maxHeartbeats 4000000
theorem GP (w : Wt) : bN Tryz.prog 53 [.agg [.i w.1,.i w.2.1,.i w.2.2]] [] (.b (!rX w)) [] := by
  have b1 : ∀ n l h : Int,bN Tryz.prog 58 [.i n,.i l,.i h] [] (.b (decide (l ≤ n) && decide (n ≤ h))) [] := fun n l h => by
    refine dR T Tryz.func58 rfl rfl rfl rfl ?_
    (repeat' (first|refine wS ?_|refine wR ?_|(refine rg 0 (aV ?_))|(refine rg 1 (fI rfl (vV (fZ rfl rfl) (mV ?_)));refine bM rfl rfl ?_ ?_<;>(intro hb;rw [hb];(try simp only [nm] at hb);try (exfalso;omega));(all_goals first|(refine gT (mW rfl (gT (mW rfl (gT (vV (iN rfl rfl) ?_))))))|(iterate 3 refine gF ?_));(all_goals (refine pW rfl (aV ?_))))|refine nZ ?_));all_goals first | (exfalso;omega) | exact dZ (.inl rfl) rfl (vU (by first | rfl | (simp;omega) | (simp [*];done)))
  have c1 := b1 w.2.1 1 20000;have c2 := b1 w.2.2 0 20000;have e : (!rX w) = (decide (0 ≤ w.1) && ((decide (1 ≤ w.2.1) && decide (w.2.1 ≤ 20000)) && (decide (0 ≤ w.2.2) && decide (w.2.2 ≤ 20000)))) := by
    unfold rX;rw [Q2];simp only [rA,gE,decide_eq_false_iff_not,aL,decide_eq_true_eq];omega
  rw [e];clear e b1;obtain ⟨a,b,c⟩ := w;dsimp only at *;generalize (decide (1 ≤ b) && decide (b ≤ 20000)) = u at *;generalize (decide (0 ≤ c) && decide (c ≤ 20000)) = v at *;cases u
  all_goals
    refine dR T Tryz.func53 rfl rfl rfl rfl ?_
    (repeat' (first|refine wS ?_|refine wR ?_|(refine rg 0 (dX (gV rfl rfl) rfl (aV ?_)))|(refine rg 1 (jP T rfl (vV (fZ rfl rfl) (mV ?_)));refine bM rfl rfl ?_ ?_<;>(intro hb;rw [hb];(try simp only [nm] at hb);try (exfalso;omega));(all_goals first|(refine gT (fW T rfl (gT (lW T rfl (gT (vV (kC (c1)) ?_))))))|(iterate 3 refine gF ?_));(all_goals (refine pW rfl (mV ?_)));(all_goals first|(refine gT (fW T rfl (gT (lW T rfl (gT (vV (kC (c2)) ?_))))))|(iterate 3 refine gF ?_));(all_goals (refine pW rfl (aV ?_))))|refine nZ ?_));all_goals first | (exfalso;omega) | exact dZ (.inl rfl) rfl (vU (by first | rfl | (simp [*];done) | (simp;omega)))
theorem TQ (w : Wt) : bN Tryz.prog 52 [.agg [.i w.1,.i w.2.1,.i w.2.2]] [] (.b (rX w)) [] := by
  have c1 := GP w;obtain ⟨a,b,c⟩ := w;dsimp only at *;generalize rX (a,b,c) = q at *;refine dR T Tryz.func52 rfl rfl rfl rfl ?_
  (repeat' (first|refine wS ?_|refine wR ?_|(refine rg 0 (dX (gV rfl rfl) rfl (aV ?_)))|(refine rg 1 (lW T rfl (vV (kC (c1)) (vV (eF rfl) (aV ?_)))))|refine nZ ?_));all_goals first | (exfalso;omega) | exact dZ (.inl rfl) rfl (vU (by cases q <;> rfl))
end Go.Proofs.YtdiogjgohbbllaaGreatDoor
namespace Go.Proofs.YtdiogjgohbbllaaGreatDoor
open Go Go.Ab Go.Shelf Go.Proofs
shelf_lay LaysM.n246 Nm 246 at Tryz as laysFmt
theorem LN (n : Int) (h0 : -9223372036854775808 ≤ n) (h1 : n ≤ 9223372036854775807) : bN Tryz.prog 134 [.i n,.i 10] [] (.s (Go.Lib.itoa n)) [] :=
  U9 (name := "internal/strconv.uint64pow10") (gi := 0) (tab := Go.Lib.pow10Tab) ⟨_, Tryz.func134, by kernel_rfl, by kernel_rfl⟩ (fun n w h2 h3 h4 => Any.internal_strconv_FormatInt_10 laysFmt n h2 h3 w h4) (by kernel_rfl) (by unfold pM Go.Lib.pow10Tab; simp [mK, Function.comp_def]) n h0 h1
theorem QK : (Tryz.prog.info? 123).map (·.size) = some 2 := by kernel_rfl
theorem UX : liesAt Tryz.prog Tryz.prog.depth 123 (2 / Tryz.prog.cellsOf 123) 0 123 1 = true := by kernel_rfl
theorem UN : Tryz.prog.underlying 163 = some .unsafePointer := by kernel_rfl
theorem NW : Tryz.prog.underlying 120 = some (.pointer 123) := by kernel_rfl
set_option maxHeartbeats 1000000 in
set_option maxRecDepth 100000 in
theorem MB (b : Nat) (w : World) (h0 : w.cell? ⟨b,0,none⟩ = some (.pointer none)) (hsh : w.shape? b = some (123,2)) (hfz : w.frozen? ⟨b,0,none⟩ = false) :
    Calls Tryz.prog 109 #[.pointer (some ⟨b,0,none⟩)] w fun e w' => e = .returned (.tuple #[]) ∧ w' = w.setCell ⟨b,0,none⟩ (.pointer (some ⟨b,0,none⟩)) := by
  obtain ⟨j,hj,hjs⟩ := bY.1 QK
  go_enter Tryz.func109,Tryz.ntmps109
  go_wp2
  rw [Go.Lib.run_to_unsafe w ⟨b,0,none⟩ NW UN hj (by rw [hjs];decide) hsh (Nat.zero_lt_succ 1)]
  simp only [Result.andThen];rw [Oper.upon_value]
  go_wp2
  rw [run_callFunc_extern Tryz.func123 (by kernel_rfl) (by kernel_rfl) (by kernel_rfl) (e := Extern.AbiNoEscape.same) (by kernel_rfl)]
  rw [Go.Lib.run_noEscape];simp only [Result.andThen];rw [Oper.upon_value]
  go_wp2
  rw [Go.Lib.run_from_unsafe w ⟨b,0,none⟩ UN NW hj hsh UX];simp only [Result.andThen];rw [Oper.upon_value]
  go_wp2
  go_end0
  exact ⟨rfl,rfl⟩
theorem HW (x : AV) : bN Tryz.prog 109 [.ptr 0 0] [.var 123 [.v (.pointer none),x]] (.tup []) [.cells [.ptr 0 0,x]] :=
  J6 ⟨_,Tryz.func109,by kernel_rfl,by kernel_rfl⟩ (fun b w h1 h2 h3 => MB b w h1 h2 h3)
end Go.Proofs.YtdiogjgohbbllaaGreatDoor
namespace Go.Proofs.YtdiogjgohbbllaaGreatDoor
open Go Go.Ab
attribute [local irreducible] VC AW bQ bN
set_option maxHeartbeats 4000000
theorem jJ : MZ Tryz.prog 9 := by unfold MZ;kernel_rfl
theorem UQ : Tryz.prog.underlying 9 = some .string := by kernel_rfl
theorem VL : Tryz.prog.underlying 151 = some (.pointer 5) := by kernel_rfl
theorem VM : Tryz.prog.cellsOf 5 = 1 := by kernel_rfl
theorem WR : ∀ i : Nat,i < 2 → ([0,1,2] : List Nat)[i]? = some i := by decide
theorem XE : ∀ i : Nat,i < 2 → ([0,1] : List Nat)[i]? = some i := by decide
theorem MC (l : List UInt8) : bN Tryz.prog 109 [.ptr 0 0] [.cells [.ptr 0 0,.sl 1 0 l.length 1],.buf 5 l] (.tup []) [.cells [.ptr 0 0,.sl 1 0 l.length 1],.buf 5 l] := by
  obtain ⟨j,hj,_⟩ := bY.1 QK;refine dR T Tryz.func109 rfl rfl rfl rfl ?_
  (repeat' (first|refine wS ?_|refine wK ?_|refine wU ?_|(refine rg 0 (mW rfl (nV ?_));refine jP T rfl (vV (by exact G5 NW rfl rfl rfl) ?_))|(refine rg 2 (mW rfl (nV ?_));refine jP T rfl (mW rfl (vV (by exact DR NW hj rfl rfl) ?_)))|refine nZ ?_));all_goals exact ⟨.inr rfl,[0,1],_,rfl,rfl,rfl,⟨.inr rfl,.inr rfl,trivial⟩,by decide,XE⟩
theorem wF (l s : List UInt8) (hl : l.length + s.length ≤ 100000000000) : bN Tryz.prog 74 [.ptr 0 0,.s s] [.cells [.ptr 0 0,.sl 1 0 l.length 1],.buf 5 l] (.tup [.i s.length,.v .nilIface]) [.cells [.ptr 0 0,.sl 2 0 (l.length + s.length) 1],.gone,.buf 5 (l ++ s)] := by
  refine dR T Tryz.func74 rfl rfl rfl rfl ?_
  (repeat' (first|refine wS ?_|refine wR ?_|(refine rg 0 (nS ?_))|(refine rg 1 (mW rfl (cT [0,1] rfl rfl (MC l) rfl rfl (by decide) ⟨.inr rfl,.inr rfl,trivial⟩ (by simp) rfl ?_)))|(refine rg 2 (fI rfl (nV ?_));refine jP T rfl (mW rfl (D5 T (e := 5) UQ rfl rfl rfl rfl rfl rfl rfl rfl (by omega) rfl ?_));refine nV ?_;refine fW T rfl (bH T rfl rfl rfl rfl rfl rfl (by decide) rfl ?_))|(refine rg 3 (mW rfl (vV (mR jJ rfl) (nS ?_))))|refine nZ ?_));all_goals exact ⟨.inl rfl,[0,1,2],_,rfl,rfl,rfl,⟨.inr rfl,.inl rfl,.inr rfl,trivial⟩,by decide,WR⟩
theorem UW : ∀ i : Nat,i < 1 → ([0,2] : List Nat)[i]? = some i := by decide
theorem IR (s : List UInt8) (hl : s.length ≤ 100000000000) : bN Tryz.prog 74 [.ptr 0 0,.s s] [.var 123 [.v (.pointer none),.nils]] (.tup [.i s.length,.v .nilIface]) [.cells [.ptr 0 0,.sl 1 0 s.length 1],.buf 5 s] := by
  refine dR T Tryz.func74 rfl rfl rfl rfl ?_
  (repeat' (first|refine wS ?_|(refine rg 0 (nS ?_))|(refine rg 1 (mW rfl (cT [0] rfl rfl (HW .nils) rfl rfl (by decide) ⟨.inr rfl,trivial⟩ (by simp) rfl ?_)))|refine nZ ?_));refine oF [(0,.ptr 0 0),(1,.s s)] [.cells [.ptr 0 0,.nils]] ⟨[0],rfl,(by repeat first|exact trivial|refine ⟨rfl,?_⟩),(by (repeat (first | exact trivial | refine ⟨Or.inl rfl,?_⟩ | refine ⟨Or.inr rfl,?_⟩))),by decide,zB⟩ ?_
  refine PZ 0 1 5 rfl rfl ?_;dsimp only [XX,XW,List.append_nil,XV,XU,XT,XS,XR,XQ,gH,eX,lA,nR,GF,yC,K4,K2,K1,K3,yB,yE,yA,yD,Nat.zero_add,XP,Nat.reduceAdd,XO,XN]
  repeat' (first|refine wS ?_|refine wR ?_|(refine rg 2 (fI rfl (nV ?_));refine jP T rfl (mW rfl (D5 T (e := 5) (lb := []) UQ rfl rfl rfl rfl rfl rfl rfl rfl (by simp;omega) rfl ?_));refine nV ?_;refine fW T rfl (bH T rfl rfl rfl rfl rfl rfl (by decide) rfl ?_))|(refine rg 3 (mW rfl (vV (mR jJ rfl) (nS ?_))))|refine nZ ?_)
  simp only [List.length_nil,Nat.zero_add,List.nil_append]
  all_goals exact ⟨.inl rfl,[0,2],_,rfl,rfl,rfl,⟨.inr rfl,.inr rfl,trivial⟩,by decide,UW⟩
theorem JD (l : List UInt8) (h0 : l ≠ []) (hl : l.length ≤ 100000000000) : bN Tryz.prog 77 [.ptr 0 0] [.cells [.ptr 0 0,.sl 1 0 l.length 1],.buf 5 l] (.s l) [.gone,.gone] := by
  have hpos : 0 < l.length := lL.2 h0;refine dR T Tryz.func77 rfl rfl rfl rfl ?_
  (repeat' (first|refine wS ?_|refine wR ?_|(refine rg 0 (aV ?_))|(refine qR (id := 1) 14 [[],[0],[0,1],[0,1,2],rN 4,[],[5],[5,6],[5,6,7],rM 5 4,rN 10] (rM 3 11) [[],[],[],[],[],rM 3 5,rM 3 5,rM 3 5,rM 3 5,rM 3 5,[]] [(10,1)] fH rfl (by decide +kernel) (eS rfl rfl rfl rfl (by exact eP rfl) ?_);refine eS rfl rfl rfl rfl (by exact dQ rfl rfl) ?_;refine eS rfl rfl rfl rfl (by exact eB T rfl rfl rfl) ?_;refine eS rfl rfl rfl rfl (by exact aY T rfl rfl rfl rfl) ?_;refine eS rfl rfl rfl rfl (by exact R9 rfl (by omega)) ?_;refine eS rfl rfl rfl rfl (by exact eP rfl) ?_;refine eS rfl rfl rfl rfl (by exact dQ rfl rfl) ?_;refine eS rfl rfl rfl rfl (by exact eB T rfl rfl rfl) ?_;refine eS rfl rfl rfl rfl (by exact aY T rfl rfl rfl rfl) ?_;refine eS rfl rfl rfl rfl (by exact O8 T rfl rfl) ?_;refine TB rfl rfl rfl rfl (aU rfl) (by exact B5 VL VM rfl rfl rfl h0 (by omega) rfl) ?_;refine xJ rfl rfl rfl (by exact rfl) ?_;refine aV ?_)|refine nZ ?_));all_goals exact ⟨.inl rfl,[0,1],_,rfl,rfl,rfl,⟨.inl rfl,.inl rfl,trivial⟩,by decide,XE⟩
end Go.Proofs.YtdiogjgohbbllaaGreatDoor
namespace Go.Proofs.YtdiogjgohbbllaaGreatDoor
open Go Go.Ab
section
variable {P : Program} {env : cI} {h : Hp} {d : Option Nat} {ty : TypeId} {pos : String} {af : Array Edge} {g : Option (Nat × Bool)}
theorem nK {t t2 : TypeId} {x y : Operand} {a b : Int} (hx : evu env x = some (.i a)) (hy : evu env y = some (.i b)) (e : a < b) : bQ P ⟨d,.binOp .lss t x y t2,ty,pos,af,g⟩ env h 0 (fun _ => .b true) (fun _ => []) := by
  have := bC (P := P) (d := d) (ty := ty) (pos := pos) (af := af) (g := g) (h := h) (t := t) (t2 := t2) hx hy;simpa [e] using this
theorem tU {t t2 : TypeId} {x y : Operand} {a b : Int} (hx : evu env x = some (.i a)) (hy : evu env y = some (.i b)) (e : b ≤ a) : bQ P ⟨d,.binOp .lss t x y t2,ty,pos,af,g⟩ env h 0 (fun _ => .b false) (fun _ => []) := by
  have := bC (P := P) (d := d) (ty := ty) (pos := pos) (af := af) (g := g) (h := h) (t := t) (t2 := t2) hx hy;simpa [show decide (a < b) = false from decide_eq_false (by omega)] using this
end
attribute [local irreducible] VC AW bQ bN
set_option maxHeartbeats 4000000
def sV (n : Int) : Prop := -9223372036854775808 ≤ n ∧ n ≤ 9223372036854775807
theorem rO : ∀ (k u : Nat), u < 10 ^ (k + 1) → Go.Lib.nDigits u ≤ k + 1
  | 0,u,h => by rw [Go.Lib.nDigits_small (by simpa using h)];exact aO _
  | k + 1,u,h => by
    by_cases hu : u < 10
    · rw [Go.Lib.nDigits_small hu];omega
    · rw [Go.Lib.nDigits_big hu];have := rO k (u / 10) (by rw [Nat.div_lt_iff_lt_mul (by decide)];rw [Nat.pow_succ] at h;exact h)
      omega
theorem AI {n : Int} (h : sV n) : (Go.Lib.itoa n).length ≤ 21 := by
  obtain ⟨h0,h1⟩ := h;unfold Go.Lib.itoa;split
  · rw [List.length_cons,Go.Lib.decDigits_length];have := rO 19 n.natAbs (by have : (10 : Nat) ^ (19 + 1) = 100000000000000000000 := (by decide);omega)
    omega
  · rw [Go.Lib.decDigits_length];have := rO 19 n.toNat (by have : (10 : Nat) ^ (19 + 1) = 100000000000000000000 := (by decide);omega)
    omega
def eR (n : Int) : List UInt8 := Go.Lib.itoa n ++ [59]
theorem kP {n : Int} (h : sV n) : (eR n).length ≤ 22 := by have := AI h;simp [eR];omega
theorem PH {n : Int} (h : sV n) : bN Tryz.prog 124 [.i n] [] (.s (Go.Lib.itoa n)) [] := by
  have hc := LN n h.1 h.2;refine dR T Tryz.func124 rfl rfl rfl rfl ?_
  (repeat' (first|refine wS ?_|refine wR ?_|(refine rg 0 (aV ?_))|(refine rg 1 (mW rfl (vV (kC (hc)) (aV ?_))))|refine nZ ?_));all_goals exact rQ
theorem DO {n : Int} (h : sV n) : bN Tryz.prog 110 [.i n] [] (.s (Go.Lib.itoa n)) [] := by
  have hc := PH h;refine dR T Tryz.func110 rfl rfl rfl rfl ?_
  (repeat' (first|refine wS ?_|refine wR ?_|(refine rg 0 (aV ?_))|(refine rg 1 (mW rfl (vV (kC (hc)) (aV ?_))))|refine nZ ?_));all_goals exact rQ
theorem sX {n : Int} (h : sV n) : bN Tryz.prog 76 [.i n] [] (.s (eR n)) [] := by
  have hc := DO h;have hl := AI h;refine dR T Tryz.func76 rfl rfl rfl rfl ?_
  (repeat' (first|refine wS ?_|refine wR ?_|(refine rg 0 (aV ?_))|(refine rg 1 (mW rfl (vV (kC (hc)) (vV (xG rfl rfl (by simp only [aC,List.length_cons,List.length_nil];omega)) ?_)));refine aV ?_)|refine nZ ?_));all_goals exact rQ
end Go.Proofs.YtdiogjgohbbllaaGreatDoor
namespace Go.Or
open Go Go.Ab
theorem NQ.start {ls : List Lo} {bs : List Bo} {ws : List Wt} {k : Nat} {left : List Bo} {N : List (Nat × List Tk)} {p : Nat} {X : Hp} {ord : List Int} {w : Wt} (h : V3 ls bs ws k left N p X) (hw : 0 ≤ w.2.1 ∧ w.2.1 ≤ 20000) :
    NQ left ord w.2.1 N p (X ++ [.gone] ++ [.arr [] 2]) 0 left [] w.2.1 (X ++ [AB.gone]).length := by
  have hnd := h.nd;simp only [aN,aQ,not_or] at hnd;obtain ⟨⟨a1,a3⟩,a4,a5⟩ := hnd;have hpl := (aA.1 h.hp).1;have h0l := (aA.1 h.h0).1;have hnl : ∀ e,e ∈ N → e.1 < X.length := fun e he => by
    have h1 := h.hn e he;exact (aA.1 h1).1
  have hz : (X ++ [AB.gone]).length = X.length + 1 := by simp
  refine ⟨bS _,by simp,rfl,h.nn,fun b hb => rfl,hw,aO _,bO (bO h.h0),bO (bO h.hp),h.hn.more fun e he b hb => bO (bO hb),cK,?_,vG (vG h.rf (fun b hb => .inl (bE.1 hb))) (vE rfl)⟩
  rw [hz];simp only [aN,aQ,not_or];refine ⟨⟨a1,by omega,a3⟩,⟨by omega,a4⟩,fun hm => ?_,a5⟩
  obtain ⟨e,he,e1⟩ := aJ.1 hm;have := hnl e he;omega
theorem NQ.fin {left0 : List Bo} {ord : List Int} {need0 : Int} {N : List (Nat × List Tk)} {p : Nat} {X : Hp} {j : Nat} {left : List Bo} {tk : List Tk} {need : Int} {q : Nat} (h : NQ left0 ord need0 N p X j left tk need q)
    (hf : ∀ hj : j < ord.length,min need (cnt left ord[j]) = 0) : kB ord left0 need0 = (tk,left,need) := by
  have heq := h.eq;rcases fT j ord.length with hj | hj
  · rw [aS hj,kB,if_pos (hf hj)] at heq;simpa using heq
  · rw [dJ hj] at heq;simpa [kB] using heq
theorem V3.next {ls : List Lo} {bs : List Bo} {ws : List Wt} {k : Nat} {left0 : List Bo} {N : List (Nat × List Tk)} {p : Nat} {X0 : Hp} (h : V3 ls bs ws k left0 N p X0) (hk : k < ws.length)
    {X : Hp} {j : Nat} {left : List Bo} {tk : List Tk} {need : Int} {q : Nat} (g : NQ left0 (rL ls left0 ws[k]) ws[k].2.1 N p X j left tk need q) (hf : kB (rL ls left0 ws[k]) left0 ws[k].2.1 = (tk,left,need)) (hn : ¬ 0 < need) :
    V3 ls bs ws (k + 1) left (N ++ [(q,tk)]) (X ++ [AB.arr [[AV.sl q 0 tk.length 2]] 1]).length ((X ++ [AB.arr [[AV.sl q 0 tk.length 2]] 1]).set p AB.gone ++ [AB.arr (kN (N ++ [(q,tk)])) 1]) := by
  have hnd := g.nd;simp only [aN,aQ,not_or] at hnd;obtain ⟨⟨a1,a2,a3⟩,⟨a4,a5⟩,a6,a7⟩ := hnd;have hql := (aA.1 g.hq).1;have h0l := (aA.1 g.h0).1;have hnl : ∀ e,e ∈ N → e.1 < X.length := fun e he => by
    have h1 := g.hn e he;exact (aA.1 h1).1
  have hmem : ∀ e,e ∈ N → e.1 ∈ N.map (·.1) := fun e he => aJ.2 ⟨e,he,rfl⟩
  have hz : (X ++ [AB.arr [[AV.sl q 0 tk.length 2]] 1]).length = X.length + 1 := by simp
  have keep : ∀ {i : Nat} {b : AB},X[i]? = some b → i ≠ p → ((X ++ [AB.arr [[AV.sl q 0 tk.length 2]] 1]).set p AB.gone ++ [AB.arr (kN (N ++ [(q,tk)])) 1])[i]? = some b := fun hi h1 => bO (fQ h1 (bO hi));have heq := h.eq;rw [aS hk,oS,hf] at heq;dsimp only at heq;rw [if_neg hn] at heq;refine ⟨hk,?_,by rw [aC,h.nl];rfl,by rw [g.len,h.len],g.nn,fun b hb => by rw [g.lot b hb,h.lot b hb],keep g.h0 a1,?_,?_,?_,?_⟩
  · rw [heq];cases oS ls left (ws.drop (k + 1)) with
    | none => rfl
    | some t => simp
  · rw [hz];have e1 : ((X ++ [AB.arr [[AV.sl q 0 tk.length 2]] 1]).set p AB.gone).length = X.length + 1 := by simp
    rw [← e1];exact cK
  · intro e he;rcases bD.1 he with he | he
    · exact keep (g.hn e he) (fun e1 => a5 (e1 ▸ hmem e he))
    · rw [bE.1 he];exact keep g.hq (fun e => a4 e.symm)
  · rw [hz,cQ];simp only [aN,aQ,not_or,bD,dW,List.map_cons,List.map_nil,bZ,or_false];refine ⟨⟨by omega,a3,a2⟩,⟨fun hm => ?_,by omega⟩,a7,⟨by simp,bB⟩,fun a ha b hb => ?_⟩
    · obtain ⟨e,he,e1⟩ := aJ.1 hm;have := hnl e he;omega
    · subst hb;exact fun e => a6 (e ▸ ha)
  · exact vG (DB (vG g.rf (vE rfl)) (.inl rfl)) (vE (RS _))
theorem EW (N : List (Nat × List Tk)) (q : Nat) (tk : List Tk) : List.take N.length (List.drop 0 (kN N)) ++ [[AV.sl q 0 tk.length 2]] = kN (N ++ [(q,tk)]) := by
  rw [dI,bA (by simp)];simp
theorem EN {ws : List Wt} {k : Nat} (h : k < ws.length) : (bF ws)[(k : Int).toNat]? = some [AV.i ws[k].1,AV.i ws[k].2.1,AV.i ws[k].2.2] := IP h
theorem yJ {X : Hp} {a b c : AB} : ((X ++ [a]).set X.length b).set X.length c = X ++ [c] := by simp
theorem UR (l : List Int) : (AB.arr (gI l) 1).rf = true := aT.2 fun e he => by obtain ⟨i,_,rfl⟩ := aJ.1 he;rfl
theorem QV : ∀ l : List Int, AV.idfL (gI l).flatten = true
  | [] => rfl
  | x :: l => QV l
theorem T8 {bs : List Bo} {j : Int} (h0 : 0 ≤ j) (h : j < bs.length) : (eY bs)[0 + j.toNat]? = some [AV.i (bs.getD j.toNat (0,0,0)).1,AV.i (cnt bs j),AV.i (bs.getD j.toNat (0,0,0)).2.2] := by
  rw [Nat.zero_add];exact T9 h0 h
theorem PU {bs : List Bo} {j n : Int} : (eY bs).set (0 + j.toNat) [AV.i (bs.getD j.toNat (0,0,0)).1,AV.i (cnt bs j - n),AV.i (bs.getD j.toNat (0,0,0)).2.2] = eY (qQ bs j n) := by
  rw [Nat.zero_add];exact MG (x := ((bs.getD j.toNat (0,0,0)).1,cnt bs j - n,(bs.getD j.toNat (0,0,0)).2.2))
theorem V3.fail {ls : List Lo} {bs : List Bo} {ws : List Wt} {k : Nat} {left0 : List Bo} {N : List (Nat × List Tk)} {p : Nat} {X0 : Hp} (h : V3 ls bs ws k left0 N p X0) (hk : k < ws.length)
    {left : List Bo} {tk : List Tk} {need : Int} (hf : kB (rL ls left0 ws[k]) left0 ws[k].2.1 = (tk,left,need)) (hn : 0 < need) : oS ls bs ws = none := by
  have heq := h.eq;rw [aS hk,oS,hf] at heq;dsimp only at heq;rw [if_pos hn] at heq;exact heq
theorem PW {ws : List Wt} (h : ws.any rX = false) {w : Wt} (hw : w ∈ ws) : 0 ≤ w.2.1 ∧ w.2.1 ≤ 20000 := by
  have := qZ.1 h w hw;unfold rX at this;simp only [mU,decide_eq_true_eq,not_or] at this;omega
end Go.Or
namespace Go.Proofs.YtdiogjgohbbllaaGreatDoor
open Go Go.Ab Go.Or
attribute [local irreducible] VC AW bQ bN eT
set_option maxHeartbeats 4000000
section
variable {P : Program} {env : cI} {h : Hp} {d : Option Nat} {ty : TypeId} {pos : String} {af : Array Edge} {g : Option (Nat × Bool)}
theorem iR {t t2 : TypeId} {x y : Operand} {a b : Int} (hx : evu env x = some (.i a)) (hy : evu env y = some (.i b)) (hab : b < a) : bQ P ⟨d,.binOp .gtr t x y t2,ty,pos,af,g⟩ env h 0 (fun _ => .b true) (fun _ => []) := by
  have := fY (P := P) (env := env) (h := h) (d := d) (ty := ty) (pos := pos) (af := af) (g := g) (t := t) (t2 := t2) hx hy
  rwa [decide_eq_true hab] at this
theorem jU {t t2 : TypeId} {x y : Operand} {a b : Int} (hx : evu env x = some (.i a)) (hy : evu env y = some (.i b)) (hab : a ≤ b) : bQ P ⟨d,.binOp .gtr t x y t2,ty,pos,af,g⟩ env h 0 (fun _ => .b false) (fun _ => []) := by
  have := fY (P := P) (env := env) (h := h) (d := d) (ty := ty) (pos := pos) (af := af) (g := g) (t := t) (t2 := t2) hx hy
  rwa [decide_eq_false (IJ.2 hab)] at this
end
theorem RY (ls : List Lo) (bs : List Bo) (ws : List Wt) (hl : ls.length ≤ 1000000) (hb : bs.length ≤ 20) (hk : V4 ls bs) (hw : ws.length ≤ 1000) (hc : ∀ b : Int,0 ≤ b → 0 ≤ cnt bs b ∧ cnt bs b ≤ 20000) :
    eT Tryz.prog 20 [.rowE (jE ls) 3,.rowE (eY bs) 3,.rowE (bF ws) 3] [] (VU ls bs ws) := by
  have hbb := jG bs;have hww := gR ws;have hh := FJ (l := ws) (F := 52) (caps := []) (p := rX) (by omega) rfl fun x _ => TQ x
  refine jN T Tryz.func20 rfl rfl rfl rfl ?_;cases hbad : ws.any rX with
  | true =>
    rw [hbad] at hh
    (repeat' (first|refine wS ?_|refine wR ?_|refine wT ?_|(refine rg 0 (nS ?_))|(refine rg 1 (mW rfl (vV (kC (hh)) ?_)))|(refine rg 2 (nS ?_))|refine nZ ?_));all_goals exact ⟨.inl rfl,_,rfl,.nils,[],by unfold pK;rw [if_pos hbad];rfl,.inl ⟨rfl,by unfold pK;rw [if_pos hbad],rfl⟩,rfl,fun b hb => by cases hb⟩
  | false =>
    rw [hbad] at hh;have hpf : pK ls bs ws = match oS ls bs ws with
      | none => (22,[])
      | some t => (0,t) := by unfold pK;rw [if_neg (by rw [hbad];simp)];rfl
    (repeat' (first|refine wS ?_|refine wK ?_|refine wU ?_|(refine rg 0 (nS ?_))|(refine rg 1 (mW rfl (vV (kC (hh)) ?_)))|(refine rg 3 (mW rfl (qW T rfl (dX (by exact S9 T rfl rfl rfl rfl (by omega) (by omega) (by dsimp only;omega) (by omega) (by decide)) rfl ?_)));refine aV ?_)|refine nZ ?_));rw [bU]
    (repeat' (first|refine wS ?_|(refine rg 4 (fI rfl (NT T rfl rfl rfl rfl rfl rfl rfl (.row (pX bs)) (MH bs) (by simp) rfl rfl ?_)))|(refine rg 5 (aV ?_))|refine nZ ?_));refine U4 9 1 rfl (by decide) ?_
    (repeat' (first|refine wB ?_|(refine rg 6 (mW rfl (qW T rfl (mV ?_))))|refine nZ ?_));refine kR (X := {x : Nat × List Bo × List (Nat × List Tk) × Nat × Hp // V3 ls bs ws x.1 x.2.1 x.2.2.1 x.2.2.2.1 x.2.2.2.2}) (fun x => [(0, .rowE (jE ls) 3), (8, .sl 0 0 (eY bs).length 3), (9, .sl x.1.2.2.2.1 0 x.1.1 1), (25, .rowE (bF ws) 3), (26, .i (bF ws).length), (27, .i (x.1.1 : Int))]) (fun x => x.1.2.2.2.2) (fun x => ws.length - x.1.1)
      ⟨(0,bs,[],1,[.arr (eY bs) 3,.arr [] 1]),⟨bS _,by simp,rfl,rfl,hc,fun b hb => rfl,rfl,rfl,fun e he => (by cases he),(by simp),vG (vE (DC bs)) (vE rfl)⟩⟩ (lM.of rfl (by repeat first|exact trivial|refine ⟨rfl,?_⟩)) ?_
    rintro ⟨⟨k,left,N,p,X⟩,ho⟩;dsimp only at ho ⊢;have hnl := ho.nl;subst hnl;by_cases hlt : N.length < ws.length
    · have hg := EN hlt;have hwb := PW hbad (aK hlt);have hin := NQ.start (ord := rL ls left ws[N.length]) (w := ws[N.length]) ho hwb;have hlk : V4 ls left := fun i hi => by
        have h1 := ho.lot i (by omega)
        rw [bU] at h1;rw [h1];exact hk i (by rw [← ho.len];exact hi)
      have hor := OO ls left ws[N.length] hl (by rw [ho.len];exact hb) hlk
      have hom : ∀ i,i ∈ rL ls left ws[N.length] → 0 ≤ i ∧ i < left.length := fun i hi => (wQ.1 hi).1;have hol := KB (ls := ls) (bs := left) (w := ws[N.length]);have hleft := ho.len;have nx := @V3.next ls bs ws N.length left N p X ho hlt
      have fl := @V3.fail ls bs ws N.length left N p X ho hlt;generalize ws[N.length] = w at *;generalize rL ls left w = ord at *
      (repeat' (first|refine wS ?_|refine wB ?_|refine wK ?_|refine wT ?_|(refine rg 7 (vV (nK rfl rfl (by omega)) ?_))|(refine rg 8 (vV (ix T rfl (by omega) (sW ws) hg) (lW T rfl (dX (cX T rfl) rfl (bH T rfl rfl rfl rfl rfl rfl (by decide) (lN cK rfl rfl) ?_)))))|refine nZ ?_));refine iM 11 (cs := [.i w.1,.i w.2.1,.i w.2.2]) rfl (fU (by simp)) rfl ?_
      rw [yJ]
      (repeat' (first|refine wS ?_|(refine rg 9 (aV ?_))|refine nZ ?_));refine U4 12 2 rfl (by decide) ?_
      have h00 := hin.h0
      (repeat' (first|refine wS ?_|refine wB ?_|(refine rg 10 (jP T rfl (aV ?_)))|(refine rg 11 (fI rfl (lW T rfl (vV (by exact oW rfl rfl hor (.cons (.row _ _ _) (.cons (vA h00 (by simp;omega) (FR _)) (.cons (D3 _ rfl) .nil))) (uK _).symm (UR _) (QV _)) ?_)));refine qW T rfl (mV ?_))|refine nZ ?_));refine kR (X := {x : Nat × List Bo × List Tk × Int × Nat × Hp // NQ left ord w.2.1 N p x.2.2.2.2.2 x.1 x.2.1 x.2.2.1 x.2.2.2.1 x.2.2.2.2.1}) (fun x => [(0, .rowE (jE ls) 3), (8, .sl 0 0 (eY bs).length 3), (9, .sl p 0 N.length 1), (12, .sl x.1.2.2.2.2.1 0 x.1.2.2.1.length 2), (13, .i x.1.2.2.2.1), (25, .rowE (bF ws) 3), (26, .i (bF ws).length), (27, .i (N.length : Int)), (36, .rowE (gI ord) 1), (37, .i (gI ord).length), (38, .i (x.1.1 : Int))]) (fun x => x.1.2.2.2.2.2) (fun x => ord.length - x.1.1)
        ⟨(0,left,[],w.2.1,_,_),hin⟩ (lM.of rfl (by repeat first|exact trivial|refine ⟨rfl,?_⟩)) ?_
      clear hin hor h00 hg;rintro ⟨⟨j,left',tk,need,q,Y⟩,g⟩;dsimp only at g ⊢;have hnu := uK ord;have hll := g.len;have hn0 := g.n0;have htl := g.tl;by_cases hcon : ∃ hj : j < ord.length,min need (cnt left' ord[j]) ≠ 0
      · obtain ⟨hj,hm⟩ := hcon;have gn := g.next hj hom hm
        obtain ⟨i0,i1⟩ := hom _ (aK hj);have hgo := DI hj;have hbo := T8 (bs := left') i0 (by omega)
        have hcc := g.nn _ i0;have g0 := g.h0;have gq := g.hq;have hds := PU (bs := left') (j := ord[j]) (n := min need (cnt left' ord[j]));have hnd := g.nd;simp only [aN,aQ,not_or] at hnd;have n0q : 0 ≠ q := fun e => hnd.1.2.1 e
        have hta := IY tk (ord[j],min need (cnt left' ord[j]));dsimp only at hta;generalize ord[j] = i at *;generalize (left'.getD i.toNat (0,0,0)).1 = x1 at *;generalize (left'.getD i.toNat (0,0,0)).2.2 = x3 at *;generalize qQ left' i (min need (cnt left' i)) = left2 at *;generalize cnt left' i = c at *
        (repeat' (first|refine wS ?_|refine wB ?_|refine wK ?_|refine wT ?_|(refine wC rfl ?_ ?_<;>(intro hb;(try simp only [nm] at hb);try (exfalso;omega)))|(refine rg 12 (vV (nK rfl rfl (by omega)) ?_))|(refine rg 13 (vV (ix T rfl (by omega) (DH ord) hgo) (vV (aY T rfl rfl rfl rfl) (aV ?_))))|(refine rg 14 (fI rfl (mW rfl (vV (by exact cN T rfl rfl rfl rfl rfl (by omega) (by omega)) ?_)));refine fW T rfl (vV (by exact aY T rfl rfl (eG g0 hbo) rfl) ?_);refine vV (rS rfl rfl) (aV ?_))|(refine rg 15 (mW rfl (vV (cO rfl rfl) ?_)))|(refine rg 16 (fI rfl (mW rfl (vV (by exact iG T rfl rfl rfl rfl) ?_)));refine dX (by exact cJ T rfl rfl (by decide) (by decide) rfl rfl rfl) rfl ?_;refine iP T rfl rfl rfl rfl rfl (bO gq) (by simp) (kV.whole cK rfl) rfl (by simp;omega) (by simp;omega) rfl ?_;refine aV ?_)|(refine rg 17 (fI rfl (vV (by exact cN T rfl rfl rfl rfl rfl (by omega) (by omega)) ?_));refine fW T rfl (vV (by exact aY T rfl rfl (eG (bO (fQ n0q (bO g0))) hbo) rfl) ?_);refine mW rfl (vV (gO rfl rfl (by omega) (by omega)) (vV (by exact cN T rfl rfl rfl rfl rfl (by omega) (by omega)) ?_));refine fW T rfl (bH T rfl rfl rfl rfl rfl rfl (by decide) (pG (bO (fQ n0q (bO g0))) hbo rfl rfl) ?_))|(refine rg 18 (fI rfl (vV (gO rfl rfl (by omega) (by omega)) (aV ?_))))|(refine rg 19 (vV (eC rfl rfl (by omega) (by omega)) (mV ?_)))|refine nZ ?_));all_goals try (exfalso;omega)
        all_goals exact ⟨⟨(j + 1,left2,tk ++ [(i,min need c)],need - min need c,_,_),gn⟩,by dsimp only;omega,lM.of (by dsimp only;rw [← hta,← hds];rfl) ⟨rfl,rfl,rfl,by dsimp only;rw [show (tk ++ [(i,min need c)]).length = tk.length + 1 by simp];rfl,rfl,rfl,rfl,rfl,rfl,rfl,rfl,trivial⟩⟩
      · have hf := g.fin fun hj => Classical.byContradiction fun e => hcon ⟨hj,e⟩
        have nx2 := nx (need := need) g hf;have fl2 := fl (need := need) hf;have oa := EW N q tk;have gp := g.hp;have hpf2 := hpf;clear nx fl;by_cases hj : j < ord.length
        · have hm : min need (cnt left' ord[j]) = 0 := Classical.byContradiction fun e => hcon ⟨hj,e⟩
          obtain ⟨i0,i1⟩ := hom _ (aK hj);have hgo := DI hj;have hbo := T8 (bs := left') i0 (by omega)
          have g0 := g.h0;generalize ord[j] = i at *;generalize (left'.getD i.toNat (0,0,0)).1 = x1 at *;generalize (left'.getD i.toNat (0,0,0)).2.2 = x3 at *;generalize cnt left' i = c at *
          (repeat' (first|refine wS ?_|refine wB ?_|refine wK ?_|refine wE ?_|refine wT ?_|(refine wC rfl ?_ ?_<;>(intro hb;(try simp only [nm] at hb);try (exfalso;omega)))|(refine rg 12 (vV (nK rfl rfl (by omega)) ?_))|(refine rg 13 (vV (ix T rfl (by omega) (DH ord) hgo) (vV (aY T rfl rfl rfl rfl) (aV ?_))))|(refine rg 14 (fI rfl (mW rfl (vV (by exact cN T rfl rfl rfl rfl rfl (by omega) (by omega)) ?_)));refine fW T rfl (vV (by exact aY T rfl rfl (eG g0 hbo) rfl) ?_);refine vV (rS rfl rfl) (aV ?_))|(refine rg 15 (mW rfl (vV (cO rfl rfl) ?_)))|refine nZ ?_));all_goals try (exfalso;omega)
          all_goals
            by_cases hn : 0 < need
            · rw [fl2 hn] at hpf2
              (repeat' (first|refine wS ?_|refine wR ?_|refine wT ?_|(refine rg 20 (mW rfl (vV (iR rfl rfl (by omega)) ?_)))|(refine rg 21 (nS ?_))|refine nZ ?_));all_goals try (exfalso;omega)
              all_goals exact ⟨.inl rfl,_,rfl,.nils,[],by rw [hpf2];rfl,.inl ⟨rfl,by rw [hpf2],rfl⟩,rfl,g.rf⟩
            · have no := nx2 hn
              (repeat' (first|refine wK ?_|refine wU ?_|(refine rg 20 (mW rfl (vV (jU rfl rfl (by omega)) ?_)))|(refine rg 22 (fI rfl (dX (by exact cJ T rfl rfl (by decide) (by decide) rfl rfl rfl) rfl ?_));refine iP T rfl rfl rfl rfl rfl (bO gp) (by simp) (kV.whole cK rfl) rfl (by simp;omega) (by simp;omega) rfl ?_;refine aV ?_)|(refine rg 23 (vV (eC rfl rfl (by omega) (by omega)) (mV ?_)))|refine nZ ?_));all_goals try (exfalso;omega)
              all_goals exact ⟨⟨(N.length + 1,left',N ++ [(q,tk)],_,_),no⟩,by dsimp only;omega,lM.of (by dsimp only;rw [← oa];rfl) (by dsimp only;(repeat (first | exact trivial | refine ⟨rfl,?_⟩)))⟩
        · (repeat' (first|refine wS ?_|refine wE ?_|refine mS rfl ?_|(refine rg 12 (vV (tU rfl rfl (by omega)) ?_))|(refine nZ ?_)));all_goals try (exfalso;omega)
          all_goals
            by_cases hn : 0 < need
            · rw [fl2 hn] at hpf2
              (repeat' (first|refine wS ?_|refine wR ?_|refine wT ?_|(refine rg 20 (mW rfl (vV (iR rfl rfl (by omega)) ?_)))|(refine rg 21 (nS ?_))|refine nZ ?_));all_goals try (exfalso;omega)
              all_goals exact ⟨.inl rfl,_,rfl,.nils,[],by rw [hpf2];rfl,.inl ⟨rfl,by rw [hpf2],rfl⟩,rfl,g.rf⟩
            · have no := nx2 hn
              (repeat' (first|refine wK ?_|refine wU ?_|(refine rg 20 (mW rfl (vV (jU rfl rfl (by omega)) ?_)))|(refine rg 22 (fI rfl (dX (by exact cJ T rfl rfl (by decide) (by decide) rfl rfl rfl) rfl ?_));refine iP T rfl rfl rfl rfl rfl (bO gp) (by simp) (kV.whole cK rfl) rfl (by simp;omega) (by simp;omega) rfl ?_;refine aV ?_)|(refine rg 23 (vV (eC rfl rfl (by omega) (by omega)) (mV ?_)))|refine nZ ?_));all_goals try (exfalso;omega)
              all_goals exact ⟨⟨(N.length + 1,left',N ++ [(q,tk)],_,_),no⟩,by dsimp only;omega,lM.of (by dsimp only;rw [← oa];rfl) (by dsimp only;(repeat (first | exact trivial | refine ⟨rfl,?_⟩)))⟩
    · have heq := ho.eq;rw [dJ (by omega)] at heq
      have hpn : oS ls bs ws = some (N.map (·.2)) := by rw [heq];simp [oS]
      rw [hpn] at hpf;have hnd := ho.nd
      (repeat' (first|refine wS ?_|refine wR ?_|refine wE ?_|refine wU ?_|(refine rg 7 (vV (tU rfl rfl (by omega)) ?_))|(refine rg 24 (mW rfl (nS ?_)))|refine nZ ?_));all_goals try (exfalso;omega)
      all_goals exact ⟨.inl rfl,_,rfl,.sl p 0 N.length 1,p :: N.map (·.1),by rw [hpf];rfl,.inr ⟨p,N,rfl,ho.hp,ho.hn,by rw [hpf],rfl,(aN.1 hnd).2⟩,rfl,ho.rf⟩
end Go.Proofs.YtdiogjgohbbllaaGreatDoor
namespace Go.Or
open Go Go.Ab
theorem Q3 (tk : List (List Tk)) : ∀ e,e ∈ D7 tk → e.length = 1 := by intro e he;obtain ⟨n,_,rfl⟩ := aJ.1 he;rfl
theorem oO (tk : List (List Tk)) : (D7 tk).length = tk.length := bJ _
theorem EO {tk : List (List Tk)} {k : Nat} (h : k < tk.length) : (D7 tk)[(k : Int).toNat]? = some [AV.rowE (eO tk[k]) 2] := by simp [h]
theorem xP (bk : Bk) : ∀ e,e ∈ vT bk → e.length = 4 := by intro e he;obtain ⟨n,_,rfl⟩ := aJ.1 he;rfl
theorem nC (bk : Bk) : (vT bk).length = bk.length := bJ _
theorem U3 {bk : Bk} {k : Nat} (h : k < bk.length) : (vT bk)[(k : Int).toNat]? = some (HB bk[k]) := by simp [h]
def CR (tk : List (List Tk)) (k : Nat) : List AV := match tk.flatten[k]? with
  | some t => [.agg [.i t.1,.i t.2]]
  | none => []
theorem qB {tk : List (List Tk)} {k : Nat} (h : k < tk.flatten.length) : CR tk k = [.agg [.i tk.flatten[k].1,.i tk.flatten[k].2]] := by
  unfold CR;rw [aB h]
theorem uM {α : Type} {tk : List (List α)} {i : Nat} (hi : i < tk.length) : (tk.take (i + 1)).flatten.length = (tk.take i).flatten.length + tk[i].length := by
  rw [aX hi,gM,aC];simp
theorem PO {α : Type} {tk : List (List α)} {i j : Nat} (hi : i < tk.length) (hj : j < tk[i].length) : ∃ h : (tk.take i).flatten.length + j < tk.flatten.length,tk.flatten[(tk.take i).flatten.length + j] = tk[i][j] := by
  have e : tk.flatten = (tk.take i).flatten ++ (tk[i] ++ (tk.drop (i + 1)).flatten) := by
    conv => lhs;rw [← bW i tk]
    rw [gM,aS hi,cE]
  have hl : (tk.take i).flatten.length + j < tk.flatten.length := by
    rw [e,aC,aC];omega
  refine ⟨hl,?_⟩;apply Option.some.inj;rw [← aB hl,e,aE (by omega),Nat.add_sub_cancel_left,aG hj,aB hj]
theorem GG {l : List Tk} {b : Int} {k : Nat} (h : k < l.length) : eD (l.take (k + 1)) b = eD (l.take k) b + (if l[k].1 = b then l[k].2 else 0) := by
  rw [aX h,iI];simp [eD]
def RD (l : List Tk) : Prop := ∀ (b : Int) (k : Nat),0 ≤ eD (l.take k) b ∧ eD (l.take k) b ≤ 1000000000000
def RE (bk : Bk) : Prop := (∀ o,o ∈ bk → RD o.tk.flatten) ∧ ∀ (b : Int) (k : Nat),0 ≤ mJ (bk.take k) b ∧ mJ (bk.take k) b ≤ 1000000000000
theorem GQ {bk : Bk} {b : Int} {k : Nat} (h : k < bk.length) : mJ (bk.take (k + 1)) b = mJ (bk.take k) b + eD bk[k].tk.flatten b := by
  have e : ∀ (l : Bk) (o : Od),mJ (l ++ [o]) b = mJ l b + eD o.tk.flatten b := fun l o => by
    unfold mJ iO;rw [eW,iI];simp
  rw [aX h,e]
end Go.Or
namespace Go.Proofs.YtdiogjgohbbllaaGreatDoor
open Go Go.Ab Go.Or
attribute [local irreducible] VC AW bQ bN eT AY VY B2
set_option maxHeartbeats 4000000
theorem XF : ∀ i : Nat,i < 2 → ([0,1] : List Nat)[i]? = some i := by decide
theorem MW (o : Od) (h1 : o.tk.length ≤ 1000000) (h2 : ∀ l,l ∈ o.tk → l.length ≤ 1000000) :
    B2 Tryz.prog 118 [] [.pr [.pr (HB o) 0] 0] [] (CR o.tk) o.tk.flatten.length := by
  have hla := oO o.tk;refine VS T Tryz.func118 rfl rfl rfl rfl ?_;intro J A y hJ hy
  (repeat' (first|(first|(refine H5 ?_)|(refine H6 ?_))|(((refine uX hJ (jH (id := 0) ?_)));(all_goals (refine lV T ?_;refine nV ?_;refine LP T ?_;(refine qV T ?_);refine mV ?_)))|refine nZ ?_));refine FT (X := {i : Nat // i ≤ o.tk.length}) (fun i => [(0,.clo (.yield y) [] []),(10,tB o.tk),(11,.i (D7 o.tk).length),(12,.i i.1)]) (fun _ => []) (fun i => ((o.tk.take i.1).flatten.length,false)) (fun i => o.tk.length - i.1) ⟨0,bS _⟩ rfl (rI []) ?_
  rintro ⟨i,hi⟩;dsimp only;by_cases hlt : i < o.tk.length
  · have ga := EO hlt;have hlm := h2 _ (aK hlt);have hft := uM hlt;have hfa := fun (j : Nat) (hj : j < o.tk[i].length) => PO hlt hj;generalize o.tk[i] = l at *;have hlb := qA l
    (repeat' (first|(first|(refine H5 ?_)|(refine H6 ?_)|(refine FS ?_))|((refine C6 rfl (fun hb=>?_) (fun hb=>?_)<;>(((try simp only [nm] at hb);try ((exfalso;omega);done)))))|(((refine uX hJ (jH (id := 1) ?_)));(all_goals (refine vV (bC rfl rfl) ?_)))|(((refine uX hJ (jH (id := 2) ?_)));(all_goals (refine vV (ix T rfl (by omega) (Q3 _) ga) ?_;refine lV T ?_;refine aV ?_)))|(((refine uX hJ (jH (id := 3) ?_)));(all_goals (refine mV ?_;(refine qV T ?_);refine mV ?_)))|refine nZ ?_));all_goals try (exfalso;omega)
    refine FT (X := {j : Nat // j ≤ l.length}) (fun j => [(0,.clo (.yield y) [] []),(10,tB o.tk),(11,.i (D7 o.tk).length),(12,.i i),(16,.rowE (eO l) 2),(17,.i (eO l).length),(18,.i j.1)]) (fun _ => []) (fun j => ((o.tk.take i).flatten.length + j.1,false)) (fun j => l.length - j.1) ⟨0,bS _⟩ rfl (rI []) ?_;rintro ⟨j,hj⟩;dsimp only;by_cases hjl : j < l.length
    · have gb := CQ hjl;obtain ⟨hk,he⟩ := hfa j hjl;have hit := qB hk;rw [he] at hit;generalize l[j] = z at *
      (repeat' (first|(first|(refine H5 ?_)|(refine H6 ?_)|(refine FS ?_)|(refine TS ?_))|((refine C6 rfl (fun hb=>?_) (fun hb=>?_)<;>(((try simp only [nm] at hb);try ((exfalso;omega);done)))))|(((refine uX hJ (jH (id := 4) ?_)));(all_goals (refine vV (bC rfl rfl) ?_)))|(((refine uX hJ (jH (id := 5) ?_)));(all_goals (refine vV (ix T rfl (by omega) (D6 _) gb) ?_;refine lV T ?_;refine dX (cX T rfl) rfl ?_;refine bH T rfl rfl rfl rfl rfl rfl (by decide) rfl ?_)))|(((refine HY (id := 6) ?_));((refine RK 2 hJ ?_));(dsimp only [List.take,List.drop]);(all_goals (refine mV ?_;refine lV T ?_;refine rF ?_;refine IS hJ hy rfl rfl rfl hk hit rfl ?_));(all_goals (intro yes));(all_goals (refine UI hJ ?_;refine vV (eF rfl) ?_;refine B8 (by ((dsimp only [List.nil_append,List.cons_append,List.append_nil,List.length_cons,List.length_nil,List.set_cons_zero,List.set_cons_succ,List.map_cons,List.map_nil,gH,eX,lA,nR,GF,yC,K4,K2,K1,K3,yB,yE,yA,yD,Nat.zero_add,Nat.add_zero,Nat.reduceAdd,Bool.not_true,Bool.not_false];done))) ?_)))|(((refine uX hJ (jH (id := 7) ?_)));(all_goals (refine vV (eC rfl rfl (by omega) (by omega)) ?_;refine mV ?_)))|refine nZ ?_));all_goals first | (exfalso;omega) | skip
      · exact ⟨.inl rfl,fun h => (by first | (subst hb;cases h) | (cases h;done)),[],rfl⟩
      · obtain rfl := hb;exact ⟨⟨j + 1,hjl⟩,by dsimp only;omega,rfl,rI []⟩
    · (repeat' (first|(first|(refine H5 ?_)|(refine FU ?_))|((refine C6 rfl (fun hb => ?_) (fun hb => ?_) <;> (((try simp only [nm] at hb);try ((exfalso;omega);done)))))|(((refine uX hJ (jH (id := 4) ?_)));(all_goals (refine vV (bC rfl rfl) ?_)))|(((refine uX hJ (jH (id := 8) ?_)));(all_goals (refine vV (eC rfl rfl (by omega) (by omega)) ?_;refine mV ?_)))|(refine B8 (by ((dsimp only [List.nil_append,List.cons_append,List.append_nil,List.length_cons,List.length_nil,List.set_cons_zero,List.set_cons_succ,List.map_cons,List.map_nil,gH,eX,lA,nR,GF,yC,K4,K2,K1,K3,yB,yE,yA,yD,Nat.zero_add,Nat.add_zero,Nat.reduceAdd,Bool.not_true,Bool.not_false];done))) ?_)));all_goals try (exfalso;omega)
      obtain rfl : j = l.length := by omega
      all_goals exact ⟨⟨i + 1,hlt⟩,by dsimp only;omega,by dsimp only;rw [hft],rI []⟩
  · (repeat' (first|(first|(refine H5 ?_)|(refine FU ?_))|((refine C6 rfl (fun hb => ?_) (fun hb => ?_) <;> (((try simp only [nm] at hb);try ((exfalso;omega);done)))))|(((refine uX hJ (jH (id := 1) ?_)));(all_goals (refine vV (bC rfl rfl) ?_)))|(refine B8 (by ((dsimp only [List.nil_append,List.cons_append,List.append_nil,List.length_cons,List.length_nil,List.set_cons_zero,List.set_cons_succ,List.map_cons,List.map_nil,gH,eX,lA,nR,GF,yC,K4,K2,K1,K3,yB,yE,yA,yD,Nat.zero_add,Nat.add_zero,Nat.reduceAdd,Bool.not_true,Bool.not_false];done))) ?_)));all_goals try (exfalso;omega)
    obtain rfl : i = o.tk.length := by omega
    exact ⟨.inr rfl,fun _ => by rw [dY],[],rfl⟩
theorem RC (o : Od) : bN Tryz.prog 99 [.pr (HB o) 0] [] (.clo (.func 118) [] [.pr [.pr (HB o) 0] 0]) [] := by
  refine EI rfl ?_;refine dR T Tryz.func99 rfl rfl rfl rfl ?_
  (repeat' (first|refine wS ?_|refine wR ?_|(refine rg 0 (dX (gV rfl rfl) rfl (aV ?_)))|(refine rg 1 (vV (by exact A7 rfl rfl) ?_);refine aV ?_)|refine nZ ?_));exact ⟨.inl rfl,[0],_,rfl,rfl,rfl,⟨.inr rfl,trivial⟩,by decide,nX _⟩
theorem LM (o : Od) (body : Int) (h1 : o.tk.length ≤ 1000000) (h2 : ∀ l,l ∈ o.tk → l.length ≤ 1000000) (hs : RD o.tk.flatten) :
    bN Tryz.prog 62 [.pr (HB o) 0,.i body] [] (.i (eD o.tk.flatten body)) [] := by
  have hal := RC o;have hit := MW o h1 h2;refine dR T Tryz.func62 rfl rfl rfl rfl ?_
  (repeat' (first|refine wS ?_|refine wB ?_|(refine rg 0 (dX (gV rfl rfl) rfl (aV ?_)))|(refine rg 1 (dX (cX T rfl) rfl (bH T rfl rfl rfl rfl rfl rfl (by decide) rfl ?_)))|(refine rg 2 (mW rfl (vV (kC (hal)) ?_)))|refine nZ ?_));refine BM [] [0,1] [(3,.ptr 0 0),(5,.ptr 1 0)] (fun k => [.cells [.i body],.cells [.i (eD (o.tk.flatten.take k) body)]]) 2 rfl hit rfl rfl rfl trivial bB rfl (by repeat first|exact trivial|refine ⟨rfl,?_⟩) ⟨.inr rfl,.inr rfl,trivial⟩ (by decide) (nX _) (by simp) (bS _) (aU rfl) rfl (by decide) (fun m hm => by rw [qB hm];exact ⟨rfl,rfl⟩) ?_ ?_
  · intro k hk;rw [qB hk];have hst := GG (b := body) hk;have hb1 := hs body k;have hb2 := hs body (k + 1);generalize o.tk.flatten[k] = t at *;obtain ⟨tb,tn⟩ := t;dsimp only at *;have hn0 : tb = body → eD (o.tk.flatten.take (k + 1)) body = eD (o.tk.flatten.take k) body + tn := fun e => by rw [hst,if_pos e]
    have hn1 : tb ≠ body → eD (o.tk.flatten.take (k + 1)) body = eD (o.tk.flatten.take k) body := fun e => by rw [hst,if_neg e];omega
    clear hst;generalize eD (o.tk.flatten.take k) body = s0 at *;generalize hs1 : eD (o.tk.flatten.take (k + 1)) body = s1 at *
    (repeat' (first|(refine rg 3 (dX (cX T rfl) rfl (bH T rfl rfl rfl rfl rfl rfl (by decide) rfl ?_)))|refine nZ ?_));refine ⟨rfl,?_⟩
    by_cases hbd : tb = body
    · have e0 := hn0 hbd;subst e0
      (repeat' (first|refine wS ?_|refine wB ?_|(refine wC rfl ?_ ?_<;>(intro hb;(try simp only [nm] at hb);try (exfalso;omega)))|(refine rg 4 (jP T rfl (lW T rfl (vV (cO rfl rfl) ?_))))|(refine rg 5 (lW T rfl (jP T rfl (vV (eC rfl rfl (by omega) (by omega)) (bH T rfl rfl rfl rfl rfl rfl (by decide) rfl ?_)))))|refine nZ ?_));all_goals try (exfalso;omega)
      all_goals
        show V0 _ _ _ _ [AB.cells [AV.i body],AB.cells [AV.i (eD (o.tk.flatten.take (k + 1)) body)]];rw [hs1];exact ⟨[0,1],rfl,trivial,⟨.inr rfl,.inr rfl,trivial⟩,by decide,XF⟩
    · have e0 := hn1 hbd;subst e0
      (repeat' (first|refine wS ?_|refine wB ?_|refine wK ?_|(refine wC rfl ?_ ?_<;>(intro hb;(try simp only [nm] at hb);try (exfalso;omega)))|(refine rg 4 (jP T rfl (lW T rfl (vV (cO rfl rfl) ?_))))|refine nZ ?_));all_goals try (exfalso;omega)
      all_goals
        show V0 _ _ _ _ [AB.cells [AV.i body],AB.cells [AV.i (eD (o.tk.flatten.take (k + 1)) body)]];rw [hs1];exact ⟨[0,1],rfl,trivial,⟨.inr rfl,.inr rfl,trivial⟩,by decide,XF⟩
  · rw [dY]
    (repeat' (first|refine wS ?_|refine wR ?_|(refine rg 6 (lW T rfl (aV ?_)))|refine nZ ?_));all_goals exact rQ
theorem DD (bk : Bk) (body : Int) (hl : bk.length ≤ 1000000) (h1 : ∀ o,o ∈ bk → o.tk.length ≤ 1000000 ∧ ∀ l,l ∈ o.tk → l.length ≤ 1000000) (hs : RE bk) :
    bN Tryz.prog 26 [GW bk,.i body] [] (.i (mJ bk body)) [] := by
  have hbl := nC bk;refine dR T Tryz.func26 rfl rfl rfl rfl ?_
  (repeat' (first|refine wS ?_|refine wB ?_|(refine rg 0 (aV ?_))|(refine rg 1 (aV ?_))|(refine rg 2 (mW rfl (nV ?_));refine jP T rfl (qW T rfl (mV ?_)))|refine nZ ?_));refine eZ (X := {k : Nat // k ≤ bk.length}) (fun k => [(0,GW bk),(1,.i body),(5,.i (mJ (bk.take k.1) body)),(10,.rowE (vT bk) 4),(11,.i (vT bk).length),(12,.i k.1)]) (fun _ => []) (fun k => bk.length - k.1) ⟨0,bS _⟩ (rI []) ?_
  rintro ⟨k,hk⟩;dsimp only;by_cases hlt : k < bk.length
  · have hg := U3 hlt;have hm := aK hlt;have hf := LM bk[k] body (h1 _ hm).1 (h1 _ hm).2 (hs.1 _ hm);have hrt := GQ (b := body) hlt;have hb1 := hs.2 body k;have hb2 := hs.2 body (k + 1);generalize bk[k] = o at *;generalize eD o.tk.flatten body = q at *;generalize mJ (bk.take k) body = s0 at *
    (repeat' (first|refine wS ?_|refine wB ?_|refine wK ?_|refine wT ?_|(refine rg 3 (vV (nK rfl rfl (by omega)) ?_))|(refine rg 4 (mW rfl (aV ?_)))|(refine rg 5 (fI rfl (nV ?_));refine jP T rfl (mW rfl (vV (ix T rfl (by omega) (xP bk) hg) (mW rfl (vV (kC (hf)) (vV (eC rfl rfl (by omega) (by omega)) (aV ?_)))))))|(refine rg 6 (vV (eC rfl rfl (by omega) (by omega)) (mV ?_)))|refine nZ ?_));all_goals try (exfalso;omega)
    all_goals exact ⟨⟨k + 1,hlt⟩,by dsimp only;omega,⟨[],rfl,⟨rfl,rfl,by dsimp only;rw [hrt];rfl,rfl,rfl,rfl,trivial⟩,trivial,bB,fun _ h => absurd h (gX _)⟩⟩
  · obtain rfl : k = bk.length := by omega
    rw [dY]
    (repeat' (first|refine wS ?_|refine wR ?_|refine wE ?_|refine wU ?_|(refine rg 3 (vV (tU rfl rfl (by omega)) ?_))|(refine rg 7 (mW rfl (aV ?_)))|refine nZ ?_));all_goals try (exfalso;omega)
    all_goals exact rQ
end Go.Proofs.YtdiogjgohbbllaaGreatDoor
namespace Go.Or
open Go Go.Ab Go.MapKept
def ID (m : List (Int × Int)) (t : Tk) : List (Int × Int) := match m.findIdx? fun e => decide (e.1 = t.1) with
  | some i => m.set i (t.1,(m.getD i (0,0)).2 + t.2)
  | none => m ++ [(t.1,t.2)]
def qL (l : List Tk) : List (Int × Int) := l.foldl ID []
theorem N9 (l : List Tk) (t : Tk) : qL (l ++ [t]) = ID (qL l) t := by unfold qL;rw [List.foldl_append];rfl
structure B0 (l : List Tk) (m : List (Int × Int)) : Prop where
  nd : (m.map (·.1)).Nodup
  val : ∀ e,e ∈ m → e.2 = eD l e.1
  cov : ∀ t,t ∈ l → t.1 ∈ m.map (·.1)
  sub : ∀ e,e ∈ m → ∃ t,t ∈ l ∧ t.1 = e.1
theorem Y6 {m : List (Int × Int)} {i : Nat} {k v w : Int} (h : m[i]? = some (k,w)) : (m.set i (k,v)).map (·.1) = m.map (·.1) := by
  apply cU;intro j;rw [aR,aR,bR];split
  · rename_i e;subst e;rw [h];simp [(aA.1 h).1]
  · rfl
theorem qO {m : List (Int × Int)} {b : Int} {i : Nat} (h : (m.findIdx? fun e => decide (e.1 = b)) = some i) : m[i]? = some (b,(m.getD i (0,0)).2) := by
  rw [List.findIdx?_eq_some_iff_getElem] at h;obtain ⟨h1,h2,_⟩ := h;rw [aB h1,aD,aB h1];have : m[i].1 = b := by simpa using h2
  rw [← this];rfl
theorem oL {m : List (Int × Int)} {b : Int} (h : (m.findIdx? fun e => decide (e.1 = b)) = none) : b ∉ m.map (·.1) := by
  rw [List.findIdx?_eq_none_iff] at h;intro hm;obtain ⟨e,he,rfl⟩ := aJ.1 hm;have := h e he;simp at this
theorem B0.nil : B0 [] [] := ⟨bB,fun e h => absurd h bZ,fun t h => absurd h bZ,fun e h => absurd h bZ⟩
theorem B0.next {l : List Tk} {m : List (Int × Int)} (h : B0 l m) (t : Tk) : B0 (l ++ [t]) (ID m t) := by
  have hs : ∀ b,eD (l ++ [t]) b = eD l b + if t.1 = b then t.2 else 0 := fun b => by rw [iI];simp [eD]
  unfold ID;split
  · rename_i i hi;have hg := qO hi;have hk := Y6 (v := (m.getD i (0,0)).2 + t.2) hg;have hv := h.val _ (aH hg);dsimp only at hv;have hun : ∀ {j : Nat} {e : Int × Int},m[j]? = some e → e.1 = t.1 → j = i := fun {j e} hj he => by
      have hjl := (aA.1 hj).1;exact (qY (by simpa using hjl) h.nd).1 (by rw [aR,aR,hj,hg];simp [he])
    refine ⟨by rw [hk];exact h.nd,fun e he => ?_,fun u hu => ?_,fun e he => ?_⟩
    · obtain ⟨j,hj⟩ := bX.1 he;rw [bR] at hj;split at hj
      · split at hj
        · cases hj;rw [hs,hv];simp
        · cases hj
      · rename_i hne;have hm := aH hj;rw [hs,if_neg (fun e1 => hne (hun hj e1.symm).symm),h.val e hm];omega
    · rw [hk];rcases bD.1 hu with hu | hu
      · exact h.cov u hu
      · rw [bE.1 hu];exact aJ.2 ⟨_,aH hg,rfl⟩
    · obtain ⟨j,hj⟩ := bX.1 he;rw [bR] at hj;split at hj
      · split at hj
        · cases hj;exact ⟨t,by simp,rfl⟩
        · cases hj
      · obtain ⟨u,h1,h2⟩ := h.sub e (aH hj);exact ⟨u,nM _ h1,h2⟩
  · rename_i hi;have hni := oL hi;have hz : eD l t.1 = 0 := qC fun u hu e => hni (e ▸ h.cov u hu)
    refine ⟨?_,fun e he => ?_,fun u hu => ?_,fun e he => ?_⟩
    · rw [cQ,dW];exact ⟨h.nd,by simp,fun a ha b hb e => by simp at hb;subst hb;exact hni (e ▸ ha)⟩
    · rcases bD.1 he with he | he
      · have hne : t.1 ≠ e.1 := fun e1 => hni (e1 ▸ aJ.2 ⟨e,he,rfl⟩);rw [hs,if_neg hne,h.val e he];omega
      · rw [bE.1 he,hs];dsimp only;rw [hz,if_pos rfl];omega
    · rw [cQ];rcases bD.1 hu with hu | hu
      · exact nM _ (h.cov u hu)
      · rw [bE.1 hu];simp
    · rcases bD.1 he with he | he
      · obtain ⟨u,h1,h2⟩ := h.sub e he;exact ⟨u,nM _ h1,h2⟩
      · rw [bE.1 he];exact ⟨t,by simp,rfl⟩
theorem JH {α : Type} {P : List α → Prop} (h0 : P []) (h1 : ∀ l x,P l → P (l ++ [x])) : ∀ l,P l := fun l => by
  have key : ∀ m : List α,P m.reverse := fun m => by
    induction m with
    | nil => exact h0
    | cons x m ih => rw [List.reverse_cons];exact h1 _ _ ih
  have := key l.reverse
  rwa [List.reverse_reverse] at this
theorem FD (l : List Tk) : B0 l (qL l) := JH (P := fun l => B0 l (qL l)) B0.nil (fun l t h => by rw [N9];exact h.next t) l
abbrev N7 (m : List (Int × Int)) : List Value := m.map fun e => kI e.1
abbrev FA (m : List (Int × Int)) : List AV := m.map fun e => AV.i e.2
theorem KX {a b : Int} (h : kI a = kI b) : a = b := by cases h;rfl
theorem SK {m : List (Int × Int)} (h : (m.map (·.1)).Nodup) : (N7 m).Nodup := by
  rw [show N7 m = (m.map (·.1)).map kI by simp [N7]]
  generalize m.map (·.1) = L at *
  induction L with
  | nil => exact bB
  | cons x l ih =>
    rw [aN] at h;rw [List.map_cons,aN];exact ⟨fun hm => by obtain ⟨y,hy,e⟩ := aJ.1 hm;exact h.1 (KX e ▸ hy),ih h.2⟩
theorem wY (m : List (Int × Int)) : ∀ q,q ∈ N7 m → IsKey (.int .i64) q := by
  intro q hq;obtain ⟨e,_,rfl⟩ := aJ.1 hq;exact G3 _
theorem SJ {m : List (Int × Int)} {b : Int} (h : b ∉ m.map (·.1)) : kI b ∉ N7 m := fun hm => by
  obtain ⟨e,he,e1⟩ := aJ.1 hm;exact h (aJ.2 ⟨e,he,KX e1⟩)
theorem OX {m : List (Int × Int)} {i : Nat} {b v w : Int} (h : m[i]? = some (b,w)) : N7 (m.set i (b,v)) = N7 m := by
  have e : ∀ q : List (Int × Int),N7 q = (q.map (·.1)).map kI := fun q => by simp [N7]
  rw [e,e,Y6 h]
theorem OW {m : List (Int × Int)} {i : Nat} {b v : Int} : FA (m.set i (b,v)) = (FA m).set i (.i v) := by
  show List.map (fun e : Int × Int => AV.i e.2) (m.set i (b,v)) = _;rw [nU]
theorem oC (m : List (Int × Int)) : AV.idfL (FA m) = true := by
  induction m with
  | nil => rfl
  | cons e m ih => exact ih
def pT (l : List Tk) (sure : List Bo) (D : List Int) : List Bo := sure.mapIdx fun j b => if (j : Int) ∈ D then (b.1,max 0 (b.2.1 - eD l j),b.2.2) else b
theorem JY {l : List Tk} {sure : List Bo} {D : List Int} : (pT l sure D).length = sure.length := by simp [pT]
theorem JX {l : List Tk} {sure : List Bo} : pT l sure [] = sure := by
  unfold pT;apply cU;intro j;rw [fF];cases sure[j]? <;> simp
theorem JZ {l : List Tk} {sure : List Bo} {D : List Int} {b : Int} (hb : 0 ≤ b) (hl : b < sure.length) (hn : b ∉ D) : (pT l sure D).getD b.toNat (0,0,0) = sure.getD b.toNat (0,0,0) := by
  unfold pT;rw [aD,fF,aD,aB (by omega)]
  simp only [iY,nT];rw [if_neg (by rw [EM hb];exact hn)]
theorem GY {l : List Tk} {sure : List Bo} {D : List Int} {b : Int} (hb : 0 ≤ b) (hl : b < sure.length) (hn : b ∉ D) :
    (pT l sure D).set b.toNat ((sure.getD b.toNat (0,0,0)).1,max 0 (cnt sure b - eD l b),(sure.getD b.toNat (0,0,0)).2.2) = pT l sure (D ++ [b]) := by
  apply cU;intro j;rw [bR];unfold pT;rw [fF,fF];by_cases hj : b.toNat = j
  · subst hj;rw [if_pos rfl,if_pos (by simp;omega),aB (by omega)]
    simp only [iY];rw [EM hb,if_pos (by simp)]
    unfold cnt;rw [aD,aB (by omega)]
    rfl
  · rw [if_neg hj];have : ((j : Int) ∈ D ++ [b]) ↔ (j : Int) ∈ D := by
      rw [bD,bE];exact ⟨fun h => h.resolve_right (by omega),.inl⟩
    simp only [this]
theorem GZ {l : List Tk} {sure : List Bo} {D : List Int} {b : Int} (hl : (sure.length : Int) ≤ b) : pT l sure (D ++ [b]) = pT l sure D := by
  apply cU;intro j;unfold pT;rw [fF,fF];by_cases hj : j < sure.length
  · have : ((j : Int) ∈ D ++ [b]) ↔ (j : Int) ∈ D := by
      rw [bD,bE];exact ⟨fun h => h.resolve_right (by omega),.inl⟩
    simp only [this]
  · rw [bK (by omega)];rfl
theorem KA {bk : Bk} {sure : List Bo} {D : List Int} (hD : ∀ t,t ∈ iO bk → t.1 ∈ D) (hc : ∀ b : Int,0 ≤ b → 0 ≤ cnt sure b) : pT (iO bk) sure D = iU bk sure := by
  apply cU;intro j;unfold pT iU;rw [fF,fF];cases hj : sure[j]? with
  | none => rfl
  | some x =>
    simp only [iY];congr 1;unfold mJ;split
    · rfl
    · rename_i hn;rw [qC fun t ht e => hn (by rw [← e];exact hD t ht)]
      have := hc j (by omega)
      unfold cnt at this;rw [bU,aD,hj] at this;simp only [nT] at this;rw [Int.sub_zero,Int.max_eq_right this]
theorem IC {bk : Bk} {k : Nat} (h : k < bk.length) : iO (bk.take (k + 1)) = iO (bk.take k) ++ bk[k].tk.flatten := by
  unfold iO;rw [aX h,eW];simp
def L3 (bs : List Nat) (d : List Nat) : List Nat := d.map fun i => bs.getD i 0
theorem GN {bs d : List Nat} (hnd : bs.Nodup) (hlt : ∀ i,i ∈ d → i < bs.length) (h : ∀ b,b ∈ bs → b ∈ L3 bs d) : ∀ i,i < bs.length → i ∈ d := fun i hi => by
  obtain ⟨j,hj,e⟩ := aJ.1 (h bs[i] (aK hi));have hjl := hlt j hj;rw [aD,aB hjl] at e;have : j = i := (qY hjl hnd).1 (by rw [aB hjl,aB hi];simpa using e)
  rw [← this];exact hj
theorem GM {bs d : List Nat} {i b : Nat} (hi : bs[i]? = some b) (h : b ∉ L3 bs d) : i ∉ d := fun hd => h (aJ.2 ⟨i,hd,by rw [aD,hi];rfl⟩)
theorem CX {bs d : List Nat} {i b : Nat} (hi : bs[i]? = some b) : L3 bs d ++ [b] = L3 bs (d ++ [i]) := by
  unfold L3;rw [cQ];simp [aD,hi]
theorem N3 {d : List Nat} {n : Nat} (hnd : d.Nodup) (hlt : ∀ i,i ∈ d → i < n) : d.length ≤ n := by
  induction n generalizing d with
  | zero =>
    cases d with
    | nil => exact aO _
    | cons x d => exact absurd (hlt x aP) (by omega)
  | succ n ih =>
    have h1 := ih (d := d.erase n) (hnd.erase n) fun i hi => by
      have h2 := hlt i (List.mem_of_mem_erase hi);have h3 : i ≠ n := fun e => by subst e;exact (List.Nodup.mem_erase_iff hnd).1 hi |>.1 rfl
      omega
    rw [List.length_erase] at h1;split at h1 <;> omega
theorem K7 {h : Hp} {i : Nat} {θ : Nat → Nat} {km since c0 : Nat} {a b : List Nat} (hk : h[i]? = some (.iter (θ km) since a c0)) (e : a = b) : h[i]? = some ((AB.iter km since b c0).map θ) := by rw [hk,e];rfl
theorem AE {d : List Nat} {i : Nat} (h : d.Nodup) (hi : i ∉ d) : (d ++ [i]).Nodup := by
  rw [dW];exact ⟨h,by simp,fun a ha b hb e => hi (by simp at hb;rw [← hb,← e];exact ha)⟩
theorem qD {h : Hp} {i : Nat} {θ : Nat → Nat} {ks ks' : List Value} {vs vs' : List AV} (hk : h[i]? = some (.mapO ks' vs')) (e1 : ks' = ks) (e2 : vs' = vs) (hi : AV.idfL vs = true) : h[i]? = some ((AB.mapO ks vs).map θ) := by
  subst e1 e2;rw [hk];show _ = some (AB.mapO ks' (AV.mapL θ vs'));rw [lP θ vs' hi]
theorem yG {h : Hp} {i : Nat} {θ : Nat → Nat} {ks : List Value} {vs vs' : List AV} {bs : List Nat} {ck : Nat} (hk : h[i]? = some (.mapB ks vs' bs ck)) (e : vs' = vs) (hi : AV.idfL vs = true) : h[i]? = some ((AB.mapB ks vs bs ck).map θ) := by
  subst e;rw [hk];show _ = some (AB.mapB ks (AV.mapL θ vs') bs ck);rw [lP θ vs' hi]
theorem mM {l a b : List Tk} (h : l = a ++ b) (hn : ∀ t,t ∈ l → 0 ≤ t.2) (x : Int) : 0 ≤ eD a x ∧ eD a x ≤ eD l x := by
  have nn : ∀ m : List Tk,(∀ t,t ∈ m → 0 ≤ t.2) → 0 ≤ eD m x := fun m hm => by
    induction m with
    | nil => exact uD _
    | cons t m ih =>
      have := ih fun u hu => hm u (aF _ hu);have h1 := hm t aP;simp only [eD];split <;> omega
  subst h;rw [iI];have h1 := nn a fun t ht => hn t (nM _ ht);have h2 := nn b fun t ht => hn t (V5 _ ht);omega
structure I3 (bk : Bk) : Prop where
  nn : ∀ t,t ∈ iO bk → 0 ≤ t.1 ∧ 0 ≤ t.2
  le : ∀ b : Int,eD (iO bk) b ≤ 1000000000000
theorem I1 (a b : Bk) : iO (a ++ b) = iO a ++ iO b := by unfold iO;rw [eW]
theorem BQ {bk : Bk} {o : Od} (h : o ∈ bk) {t : Tk} (ht : t ∈ o.tk.flatten) : t ∈ iO bk := dK.2 ⟨o,h,ht⟩
theorem I3.bk {bk : Bk} (h : I3 bk) : RE bk := by
  refine ⟨fun o ho b k => ?_,fun b k => ?_⟩
  · obtain ⟨i,hi⟩ := bX.1 ho;obtain ⟨hl,he⟩ := aA.1 hi;have e : iO bk = iO (bk.take i) ++ (o.tk.flatten ++ iO (bk.drop (i + 1))) := by
      conv => lhs;rw [← bW i bk,aS hl,he]
      rw [I1];rfl
    have hm := h.le b;have h1 := mM e (fun t ht => (h.nn t ht).2) b;have e2 : o.tk.flatten = o.tk.flatten.take k ++ o.tk.flatten.drop k := (bW _ _).symm;have h2 := mM e2 (fun t ht => (h.nn t (BQ ho ht)).2) b;rw [e,iI,iI] at hm;have h3 := mM (l := iO (bk.drop (i + 1))) (a := iO (bk.drop (i + 1))) (b := []) (by simp) (fun t ht => (h.nn t (by rw [e];simp [ht])).2) b
    omega
  · have e : iO bk = iO (bk.take k) ++ iO (bk.drop k) := by rw [← I1,bW]
    have := mM e (fun t ht => (h.nn t ht).2) b;have := h.le b;unfold mJ;omega
theorem I3.part {bk : Bk} (h : I3 bk) {k j : Nat} (hk : k < bk.length) (b : Int) : 0 ≤ eD (iO (bk.take k) ++ bk[k].tk.flatten.take j) b ∧ eD (iO (bk.take k) ++ bk[k].tk.flatten.take j) b ≤ 1000000000000 := by
  have e : iO bk = (iO (bk.take k) ++ bk[k].tk.flatten.take j) ++ (bk[k].tk.flatten.drop j ++ iO (bk.drop (k + 1))) := by
    conv => lhs;rw [← bW k bk,aS hk]
    rw [I1];show _ ++ (bk[k].tk.flatten ++ _) = _;generalize bk[k].tk.flatten = F
    conv => lhs;rw [← bW j F]
    simp only [bG];rfl
  have := mM e (fun t ht => (h.nn t ht).2) b;have := h.le b;omega
theorem WH (S : Nat → Prop) (w : World) (ρ : Pl) : R S w (.i 0) ρ (.int .i64 0) := by simp [R]
end Go.Or
namespace Go.Proofs.YtdiogjgohbbllaaGreatDoor
open Go Go.Ab Go.Or Go.MapKept
attribute [local irreducible] VC AW bQ bN eT AY VY B2
set_option maxHeartbeats 4000000
theorem AG : Tryz.prog.underlying 103 = some (.map 3 3) := by kernel_rfl
theorem FG : pD Tryz.prog 3 (IsKey (.int .i64)) := pD.int (by kernel_rfl)
theorem XL : ∀ w,(zeroValue 3).run Tryz.prog w = .ok (.int .i64 0) w := W3 (by kernel_rfl)
theorem VA : ∀ i : Nat,i < 2 → ([0,1] : List Nat)[i]? = some i := by decide
theorem RV (bk : Bk) (hl : bk.length ≤ 1000000) (h1 : ∀ o,o ∈ bk → o.tk.length ≤ 1000000 ∧ ∀ l,l ∈ o.tk → l.length ≤ 1000000) (hs : I3 bk) :
    bN Tryz.prog 50 [GW bk] [] (.mp 0) [.mapO (N7 (qL (iO bk))) (FA (qL (iO bk)))] := by
  have hbl := nC bk;refine dR T Tryz.func50 rfl rfl rfl rfl ?_
  (repeat' (first|refine wS ?_|refine wB ?_|(refine rg 0 (aV ?_))|(refine rg 1 (dX (by exact O7) rfl ?_);refine dX (cX T rfl) rfl (bH T rfl rfl rfl rfl rfl rfl (by decide) rfl ?_))|(refine rg 2 (mW rfl (nV ?_));refine jP T rfl (qW T rfl (mV ?_)))|refine nZ ?_));refine eZ (X := {k : Nat // k ≤ bk.length}) (fun k => [(0,GW bk),(3,.ptr 1 0),(10,.rowE (vT bk) 4),(11,.i (vT bk).length),(12,.i k.1)]) (fun k => [.mapO (N7 (qL (iO (bk.take k.1)))) (FA (qL (iO (bk.take k.1)))),.cells [.mp 0]]) (fun k => bk.length - k.1) ⟨0,bS _⟩ ⟨[0,1],rfl,(by repeat first|exact trivial|refine ⟨rfl,?_⟩),⟨.inr rfl,.inr rfl,trivial⟩,by decide,nX _⟩ ?_
  rintro ⟨k,hk⟩;dsimp only;by_cases hlt : k < bk.length
  · have hg := U3 hlt;have hm := aK hlt;have hsp := fun (j : Nat) (b : Int) => hs.part (j := j) hlt b;have hall := IC hlt;have hal := RC bk[k];have hit := MW bk[k] (h1 _ hm).1 (h1 _ hm).2;generalize bk[k] = o at *;generalize iO (bk.take k) = A at *
    (repeat' (first|refine wS ?_|refine wB ?_|refine wK ?_|refine wT ?_|(refine rg 3 (vV (nK rfl rfl (by omega)) ?_))|(refine rg 4 (mW rfl (aV ?_)))|(refine rg 5 (mW rfl (nV ?_));refine jP T rfl (mW rfl (vV (ix T rfl (by omega) (xP bk) hg) (vV (kC (hal)) ?_))))|refine nZ ?_));refine BM [] [0,1] [(0,GW bk),(3,.ptr 1 0),(10,.rowE (vT bk) 4),(11,.i (vT bk).length),(12,.i k)] (fun j => [.mapO (N7 (qL (A ++ o.tk.flatten.take j))) (FA (qL (A ++ o.tk.flatten.take j))),.cells [.mp 0]]) 2 rfl hit rfl rfl rfl trivial bB rfl (by repeat first|exact trivial|refine ⟨rfl,?_⟩) ⟨.inr (qD rfl (by simp) (by simp) (oC _)),.inr rfl,trivial⟩ (by decide) (nX _) (by simp) (bS _) (aU rfl) rfl (by decide) (fun m hm => by rw [qB hm];exact ⟨rfl,rfl⟩) ?_ ?_
    · intro j hj;rw [qB hj];have hb1 := hsp j;have hb2 := hsp (j + 1);have hsn : qL (A ++ o.tk.flatten.take (j + 1)) = ID (qL (A ++ o.tk.flatten.take j)) o.tk.flatten[j] := by
        rw [aX hj,← bG,N9]
      have hs2 : ∀ b,eD (A ++ o.tk.flatten.take (j + 1)) b = eD (A ++ o.tk.flatten.take j) b + (if o.tk.flatten[j].1 = b then o.tk.flatten[j].2 else 0) := fun b => by
        rw [aX hj,← bG,iI];simp [eD]
      have hmo := FD (A ++ o.tk.flatten.take j);generalize o.tk.flatten[j] = t at *;generalize A ++ o.tk.flatten.take j = Y at *;generalize hM1 : qL (A ++ o.tk.flatten.take (j + 1)) = M1 at *;generalize hY1 : A ++ o.tk.flatten.take (j + 1) = Y1 at *;generalize qL Y = M at *;obtain ⟨tb,tn⟩ := t;dsimp only at *;have hnd := SK hmo.nd;unfold ID at hsn;cases hfi : M.findIdx? fun e => decide (e.1 = tb) with
      | some i =>
        rw [hfi] at hsn;dsimp only at hsn;have hg1 := qO hfi;have hk1 : (N7 M)[i]? = some (kI tb) := by rw [aR,hg1];rfl
        have hk2 : (FA M)[i]? = some (.i (M.getD i (0,0)).2) := by rw [aR,hg1];rfl
        have hv := hmo.val _ (aH hg1);dsimp only at hv;have c1 := hb1 tb;have c2 := hb2 tb;rw [hs2,if_pos rfl] at c2;have e1 := OX (v := (M.getD i (0,0)).2 + tn) hg1;have e2 := OW (m := M) (i := i) (b := tb) (v := (M.getD i (0,0)).2 + tn);rw [← hsn] at e1 e2;generalize (M.getD i (0,0)).2 = v at *
        (repeat' (first|(refine rg 6 (dX (cX T rfl) rfl (bH T rfl rfl rfl rfl rfl rfl (by decide) rfl ?_)))|refine nZ ?_));refine ⟨rfl,?_⟩
        (repeat' (first|refine wB ?_|(refine rg 7 (lW T rfl (jP T rfl (vV (by exact DT AG FG rfl rfl (FF _) rfl (wY M) (G3 _) hnd hk1 hk2) ?_)));refine jP T rfl (vV (eC rfl rfl (by omega) (by omega)) (GB AG FG rfl rfl (FF _) rfl rfl (wY M) (G3 _) hnd hk1 ?_)))|refine nZ ?_));all_goals try (exfalso;omega)
        all_goals
          show V0 _ _ _ _ [AB.mapO (N7 (qL _)) (FA (qL _)),AB.cells [AV.mp 0]];rw [hY1,hM1];exact ⟨[0,1],rfl,trivial,⟨.inr (qD rfl e1.symm e2.symm (oC _)),.inr rfl,trivial⟩,by decide,VA⟩
      | none =>
        rw [hfi] at hsn;dsimp only at hsn;have hno := SJ (oL hfi);have c2 := hb2 tb;have c0 : eD Y tb = 0 := qC fun u hu e => oL hfi (e ▸ hmo.cov u hu);rw [hs2,if_pos rfl,c0] at c2;have e1 : N7 M1 = N7 M ++ [kI tb] := by rw [hsn];simp [N7]
        have e2 : FA M1 = FA M ++ [.i (0 + tn)] := by rw [hsn];simp [FA]
        (repeat' (first|(refine rg 6 (dX (cX T rfl) rfl (bH T rfl rfl rfl rfl rfl rfl (by decide) rfl ?_)))|refine nZ ?_));refine ⟨rfl,?_⟩
        (repeat' (first|refine wB ?_|(refine rg 7 (lW T rfl (jP T rfl (vV (by exact A6 (zA := .i 0) AG FG XL WH rfl rfl (FF _) rfl (wY M) (G3 _) hno) ?_)));refine jP T rfl (vV (eC rfl rfl (by omega) (by omega)) (K0 AG FG rfl rfl (FF _) rfl rfl (wY M) (G3 _) hno ?_)))|refine nZ ?_));all_goals try (exfalso;omega)
        all_goals
          show V0 _ _ _ _ [AB.mapO (N7 (qL _)) (FA (qL _)),AB.cells [AV.mp 0]];rw [hY1,hM1];exact ⟨[0,1],rfl,trivial,⟨.inr (qD rfl e1.symm e2.symm (oC _)),.inr rfl,trivial⟩,by decide,VA⟩
    · rw [dY,← hall]
      (repeat' (first|(refine rg 8 (vV (eC rfl rfl (by omega) (by omega)) (mV ?_)))|refine nZ ?_));all_goals exact ⟨⟨k + 1,hlt⟩,by dsimp only;omega,⟨[0,1],rfl,(by repeat first|exact trivial|refine ⟨rfl,?_⟩),⟨.inr (qD rfl rfl rfl (oC _)),.inr rfl,trivial⟩,by decide,nX _⟩⟩
  · obtain rfl : k = bk.length := by omega
    rw [dY]
    (repeat' (first|refine wS ?_|refine wR ?_|refine wE ?_|refine wU ?_|(refine rg 3 (vV (tU rfl rfl (by omega)) ?_))|(refine rg 9 (lW T rfl (aV ?_)))|refine nZ ?_));all_goals try (exfalso;omega)
    all_goals exact ⟨.inl rfl,[0],_,rfl,rfl,rfl,⟨.inr (qD rfl rfl rfl (oC _)),trivial⟩,by decide,nX _⟩
theorem OC (bk : Bk) (sure : List Bo) (hl : bk.length ≤ 1000000) (h1 : ∀ o,o ∈ bk → o.tk.length ≤ 1000000 ∧ ∀ l,l ∈ o.tk → l.length ≤ 1000000) (hs : I3 bk) (hsl : sure.length ≤ 1000000) (hc : ∀ b : Int,0 ≤ b → 0 ≤ cnt sure b ∧ cnt sure b ≤ 20000) :
    bN Tryz.prog 19 [GW bk,.rowE (eY sure) 3] [] (.sl 0 0 (iU bk sure).length 3) [.arr (eY (iU bk sure)) 3] := by
  have hrm := RV bk hl h1 hs;have hcl := HU sure hsl;have hmo := FD (iO bk);have hnn := hs.nn;have hle := hs.le;rw [kJ];have hfin : ∀ D : List Int,(∀ t,t ∈ iO bk → t.1 ∈ D) → pT (iO bk) sure D = iU bk sure := fun D hD => KA hD fun b hb => (hc b hb).1;generalize iU bk sure = SP at *;generalize iO bk = A at *;generalize qL A = m at *;refine dR T Tryz.func19 rfl rfl rfl rfl ?_
  (repeat' (first|refine wS ?_|refine wB ?_|(refine rg 0 (aV ?_))|(refine rg 1 (mW rfl (dX (by exact rU rfl rfl hcl (.inr ⟨rfl,rfl,by simp⟩)) rfl ?_));refine aV ?_)|(refine rg 2 (mW rfl (dX (by exact rU rfl rfl hrm (.inr ⟨rfl,rfl,by simp⟩)) rfl ?_));refine CN 1 rfl fun bs ck hb1' hb2' hb3' hb4'=>?_;refine dX (by exact LL AG rfl rfl) rfl ?_)|refine nZ ?_));have hbl : bs.length = m.length := by rw [hb1'];simp
  refine eZ (X := {d : List Nat // d.Nodup ∧ ∀ i,i ∈ d → i < m.length}) (fun d => [(5,.sl 0 0 sure.length 3),(12,.ptr 2 0)]) (fun d => [.arr (eY (pT A sure (d.1.map fun i => (m.getD i (0,0)).1))) 3,.mapB (N7 m) (FA m) bs ck,.iter 1 ck (L3 bs d.1) ck]) (fun d => m.length - d.1.length) ⟨[],bB,fun i hi => by cases hi⟩ ⟨[0,1,2],rfl,(by repeat first|exact trivial|refine ⟨rfl,?_⟩),⟨.inr (cS rfl (by rw [gS _ (vS _)];exact congrArg eY JX.symm) (vS _)),.inr (yG rfl (lP _ _ (oC _)) (oC _)),.inr rfl,trivial⟩,by decide,nX _⟩ ?_
  rintro ⟨d,hnd,hlt⟩;dsimp only;have hdl := N3 hnd hlt
  repeat' (first|refine wS ?_|refine wB ?_|refine wK ?_|refine wE ?_|refine wT ?_|refine wU ?_|(refine rg 3 ?_;refine NS rfl rfl rfl hb4' (aO _) rfl (fun hend=>CM 1 rfl ?_) (fun i kv v b g1 g1' g2 g3=>?_);(all_goals (refine xV ?_)))|refine nZ ?_)
  · have hall := GN hb3' (by rw [hbl];exact hlt) hend
    rw [hbl] at hall;have hD := hfin (d.map fun i => (m.getD i (0,0)).1) fun t ht => by
      obtain ⟨e,he,e1⟩ := aJ.1 (hmo.cov t ht);obtain ⟨i,hi⟩ := bX.1 he;refine aJ.2 ⟨i,hall i (aA.1 hi).1,?_⟩;rw [aD,hi];exact e1
    rw [hD]
    (repeat' (first|refine wR ?_|(refine rg 7 (mW rfl (aV ?_)))|refine nZ ?_));all_goals exact ⟨.inl rfl,[0],_,rfl,rfl,rfl,⟨.inr (cS rfl rfl (vS _)),trivial⟩,by decide,nX _⟩
  · rw [aR] at g1;obtain ⟨⟨b0,v0⟩,hac,rfl⟩ := bY.1 g1;have hv : v = .i v0 := by rw [aR,hac] at g1';simpa using g1'.symm
    subst hv;have k1 : (N7 m)[i]? = some (kI b0) := by rw [aR,hac];rfl
    have k2 : (FA m)[i]? = some (.i v0) := by rw [aR,hac];rfl
    have hnew := GM g2 g3;have hil := (aA.1 hac).1;have hsn := CX (d := d) g2;have hd' : (d ++ [i]).Nodup ∧ ∀ j,j ∈ d ++ [i] → j < m.length := ⟨AE hnd hnew,fun j hj => (bD.1 hj).elim (hlt j) (fun e => by simp at e;rw [e];exact hil)⟩
    have hdl2 := N3 hd'.1 hd'.2;rw [aC,cF] at hdl2;have hmm := aH hac;have hval := hmo.val _ hmm;obtain ⟨u,hu1,hu2⟩ := hmo.sub _ hmm;have hb0 := (hnn u hu1).1;dsimp only at hval hu2;rw [hu2] at hb0;have hvn : 0 ≤ v0 ∧ v0 ≤ 1000000000000 := by
      rw [hval];exact ⟨(mM (l := A) (a := A) (b := []) (by simp) (fun t ht => (hnn t ht).2) b0).1,hle b0⟩
    have hmap : (d ++ [i]).map (fun i => (m.getD i (0,0)).1) = d.map (fun i => (m.getD i (0,0)).1) ++ [b0] := by
      rw [cQ];simp only [List.map_cons,List.map_nil];rw [aD,hac];rfl
    have hnb : b0 ∉ d.map (fun i => (m.getD i (0,0)).1) := fun hm => by
      obtain ⟨j,hj,e⟩ := aJ.1 hm;have hjl := hlt j hj;have e2 : (m.map (·.1))[j]? = (m.map (·.1))[i]? := by
        rw [aR,aR,hac,aB hjl];rw [aD,aB hjl] at e;simpa using e
      exact hnew (((qY (by simpa using hjl) hmo.nd).1 e2) ▸ hj)
    generalize hD1 : (d ++ [i]).map (fun i => (m.getD i (0,0)).1) = D1 at *;generalize d.map (fun i => (m.getD i (0,0)).1) = D at *;subst hmap;have hbl2 := jG (pT A sure D);have hol := JY (l := A) (sure := sure) (D := D);by_cases hin : b0 < sure.length
    · have hst := GY (l := A) hb0 hin hnb;have hge := JZ (l := A) hb0 hin hnb;have hbo := T8 (bs := pT A sure D) hb0 (by omega)
      have hcn : cnt (pT A sure D) b0 = cnt sure b0 := by unfold cnt;rw [hge]
      rw [hge,hcn] at hbo;have hcc := hc b0 hb0;rw [← hval] at hst;have hst2 := congrArg eY hst;rw [← MG] at hst2;dsimp only at hst2;generalize (sure.getD b0.toNat (0,0,0)).1 = x1 at *;generalize (sure.getD b0.toNat (0,0,0)).2.2 = x3 at *;generalize cnt sure b0 = c at *;generalize hO1 : pT A sure (D ++ [b0]) = O1 at *;generalize pT A sure D = O at *
      (repeat' (first|refine wS ?_|refine wT ?_|(refine rg 4 (dX (by exact AX rfl rfl rfl rfl g2 k1 k2) rfl ?_);refine xW rfl (xW rfl (nS ?_)))|(refine rg 5 (fI rfl (qW T rfl (vV (nK rfl rfl (by omega)) ?_))))|(refine rg 6 (fI rfl (fI rfl (vV (by exact cN T rfl rfl rfl rfl rfl (by omega) (by omega)) ?_)));refine fW T rfl (vV (by exact aY T rfl rfl (eG rfl hbo) rfl) ?_);refine mW rfl (vV (gO rfl rfl (by omega) (by omega)) (vV (SX rfl rfl) (vV (by exact cN T rfl rfl rfl rfl rfl (by omega) (by omega)) ?_)));refine fW T rfl (bH T rfl rfl rfl rfl rfl rfl (by decide) (pG rfl hbo rfl rfl) ?_))|refine nZ ?_));all_goals try (exfalso;omega)
      all_goals exact ⟨⟨d ++ [i],hd'⟩,by dsimp only;rw [aC,cF];omega,[0,1,2],rfl,(by repeat first|exact trivial|refine ⟨rfl,?_⟩),⟨.inr (cS rfl (by dsimp only;rw [hD1,hO1,← hst2,Nat.zero_add]) (vS _)),.inr (yG rfl rfl (oC _)),.inr (K7 rfl hsn),trivial⟩,by decide,nX _⟩
    · have hsk := GZ (l := A) (sure := sure) (D := D) (b := b0) (by omega)
      (repeat' (first|refine wS ?_|refine wK ?_|refine wU ?_|(refine rg 4 (dX (by exact AX rfl rfl rfl rfl g2 k1 k2) rfl ?_);refine xW rfl (xW rfl (nS ?_)))|(refine rg 5 (fI rfl (qW T rfl (vV (tU rfl rfl (by omega)) ?_))))|refine nZ ?_));all_goals try (exfalso;omega)
      all_goals exact ⟨⟨d ++ [i],hd'⟩,by dsimp only;rw [aC,cF];omega,[0,1,2],rfl,(by repeat first|exact trivial|refine ⟨rfl,?_⟩),⟨.inr (cS rfl (by dsimp only;rw [hD1,hsk]) (vS _)),.inr (yG rfl rfl (oC _)),.inr (K7 rfl hsn),trivial⟩,by decide,nX _⟩
end Go.Proofs.YtdiogjgohbbllaaGreatDoor
namespace Go.Or
open Go Go.Ab
theorem L1 {α : Type} {L : List α} {i : Nat} {e e' : α} (h : L[i]? = some e) : L = L.take i ++ e :: L.drop (i + 1) ∧ L.set i e' = L.take i ++ e' :: L.drop (i + 1) := by
  obtain ⟨h1,h2⟩ := aA.1 h;refine ⟨?_,by rw [List.set_eq_take_append_cons_drop,if_pos h1]⟩
  conv => lhs;rw [← bW i L,aS h1,h2]
theorem iZ.upd {H H' : Hp} {pb po : Nat} {L : OL} (h : iZ H pb po L) {i : Nat} {e : Od × AV × List Nat} (hi : L[i]? = some e) (o' : Od) (x' : AV) (B : List Nat)
    (hpb : H'[pb]? = H[pb]?) (hpo : H'[po]? = some (.arr ((L.map fun e => iV e.1 e.2.1).set i (iV o' x')) 4)) (hk : ∀ k,k < H.length → k ≠ po → k ∉ e.2.2 → H'[k]? = H[k]?)
    (hn : jZ H' x' o'.tk B) (hB : ∀ k,k ∈ B → k ∈ e.2.2 ∨ H.length ≤ k) (hBn : B.Nodup) : iZ H' pb po (L.set i (o',x',B)) := by
  obtain ⟨s1,s2⟩ := L1 (e' := (o',x',B)) hi;have hnd := h.nd;have hlt := h.lt;have hfe : L.flatMap (·.2.2) = (L.take i).flatMap (·.2.2) ++ (e.2.2 ++ (L.drop (i + 1)).flatMap (·.2.2)) := by
    conv => lhs;rw [s1]
    rw [eW,fD]
  have hfs : (L.set i (o',x',B)).flatMap (·.2.2) = (L.take i).flatMap (·.2.2) ++ (B ++ (L.drop (i + 1)).flatMap (·.2.2)) := by
    rw [s2,eW,fD]
  have hmem : ∀ k,k ∈ L.flatMap (·.2.2) → k ∈ vO pb po L := fun k hk => aF _ (aF _ hk);simp only [aN,aQ,not_or] at hnd;obtain ⟨⟨n1,n2⟩,n3,n4⟩ := hnd;rw [hfe] at n2 n3 n4 hmem;generalize hF1 : (L.take i).flatMap (·.2.2) = F1 at *;generalize hF2 : (L.drop (i + 1)).flatMap (·.2.2) = F2 at *;have n4' := n4;rw [dW] at n4;obtain ⟨m1,m2,m3⟩ := n4;rw [dW] at m2;obtain ⟨m4,m5,m6⟩ := m2;have hF : ∀ k,k ∈ F1 ∨ k ∈ F2 → k < H.length ∧ k ∉ e.2.2 ∧ k ≠ po ∧ k ≠ pb := fun k hq => by
    have hq2 : k ∈ F1 ++ (e.2.2 ++ F2) := by rcases hq with hq | hq <;> simp [hq]
    refine ⟨hlt k (hmem k hq2),fun he => ?_,fun e1 => n3 (e1 ▸ hq2),fun e1 => n2 (e1 ▸ hq2)⟩;rcases hq with hq | hq
    · exact m3 k hq k (nM _ he) rfl
    · exact m6 k he k hq rfl
  have hpoe : po ∉ e.2.2 ∧ pb ∉ e.2.2 := ⟨fun he => n3 (by simp [he]),fun he => n2 (by simp [he])⟩
  have hpol := hlt po (by simp)
  have hpbl := hlt pb (by simp)
  refine ⟨by rw [hpb,h.b,eE],by rw [hpo,nU],fun f hf => ?_,?_⟩
  · obtain ⟨j,hj⟩ := bX.1 hf;rw [bR] at hj;split at hj
    · split at hj
      · cases hj;exact hn
      · cases hj
    · rename_i hne;have hfL := aH hj;refine (h.n f hfL).frame fun k hkf => ?_
      have hkF : k ∈ F1 ∨ k ∈ F2 := by
        rcases fT j i with hji | hji
        · left;rw [← hF1];exact dK.2 ⟨f,aH (i := j) (by rw [bI,if_pos hji];exact hj),hkf⟩
        · right;rw [← hF2];exact dK.2 ⟨f,aH (i := j - (i + 1)) (by rw [dH,show i + 1 + (j - (i + 1)) = j by omega];exact hj),hkf⟩
      obtain ⟨a1,a2,a3,_⟩ := hF k hkF;exact hk k a1 a3 a2
  · rw [hfs];have hBF : ∀ k,k ∈ B → k ∉ F1 ∧ k ∉ F2 ∧ k ≠ po ∧ k ≠ pb := fun k hkB => by
      rcases hB k hkB with hk | hk
      · refine ⟨fun h1 => (hF k (.inl h1)).2.1 hk,fun h1 => (hF k (.inr h1)).2.1 hk,fun e1 => hpoe.1 (e1 ▸ hk),fun e1 => hpoe.2 (e1 ▸ hk)⟩
      · refine ⟨fun h1 => ?_,fun h1 => ?_,by omega,by omega⟩
        · have := (hF k (.inl h1)).1;omega
        · have := (hF k (.inr h1)).1;omega
    simp only [aN,aQ,not_or,bD];refine ⟨⟨n1,fun h1 => n2 (by simp [h1]),fun h1 => (hBF pb h1).2.2.2 rfl,fun h1 => n2 (by simp [h1])⟩,⟨fun h1 => n3 (by simp [h1]),fun h1 => (hBF po h1).2.2.1 rfl,fun h1 => n3 (by simp [h1])⟩,?_⟩
    rw [dW];refine ⟨m1,?_,fun a ha b hb e1 => ?_⟩
    · rw [dW];exact ⟨hBn,m5,fun a ha b hb e1 => (hBF a ha).2.1 (e1 ▸ hb)⟩
    · subst e1;rcases bD.1 hb with hb | hb
      · exact (hBF a hb).1 ha
      · exact m3 a ha a (V5 _ hb) rfl
theorem iZ.fr {H H' : Hp} {pb po : Nat} {L : OL} (h : iZ H pb po L) {i : Nat} {e : Od × AV × List Nat} (hi : L[i]? = some e) {o' : Od} {x' : AV} {B : List Nat} (hle : H.length ≤ H'.length) (hpb : H'[pb]? = H[pb]?)
    (hk : ∀ k,k < H.length → k ≠ po → k ∉ e.2.2 → H'[k]? = H[k]?) (hB : ∀ k,k ∈ B → k ∈ e.2.2 ∨ H.length ≤ k) : Fr H (vO pb po L) H' (vO pb po (L.set i (o',x',B))) := by
  obtain ⟨s1,s2⟩ := L1 (e' := (o',x',B)) hi;have he := aH hi;refine ⟨hle,fun k hkl hkA => ?_,fun k hkA => ?_⟩
  · refine hk k hkl (fun e1 => hkA (by subst e1;simp)) fun h1 => hkA ?_
    exact aF _ (aF _ (dK.2 ⟨e,he,h1⟩))
  · rcases aQ.1 hkA with rfl | hkA
    · exact .inl (by simp)
    rcases aQ.1 hkA with rfl | hkA
    · exact .inl (by simp)
    obtain ⟨f,hf,hkf⟩ := dK.1 hkA;rcases rJ hf with rfl | hf
    · rcases hB k hkf with h1 | h1
      · exact .inl (aF _ (aF _ (dK.2 ⟨e,he,h1⟩)))
      · exact .inr h1
    · exact .inl (aF _ (aF _ (dK.2 ⟨f,hf,hkf⟩)))
theorem iZ.add {H H' : Hp} {pb po po' : Nat} {L : OL} (h : iZ H pb po L) (o' : Od) (ho : o'.tk = []) (hpo' : H.length ≤ po')
    (hpb : H'[pb]? = some (.cells [.sl po' 0 (L.length + 1) 4])) (hpo : H'[po']? = some (.arr ((L.map fun e => iV e.1 e.2.1) ++ [iV o' .nils]) 4)) (hk : ∀ k,k < H.length → k ≠ po → k ≠ pb → H'[k]? = H[k]?) : iZ H' pb po' (L ++ [(o',.nils,[])]) := by
  have hnd := h.nd;have hlt := h.lt;simp only [aN,aQ,not_or] at hnd;obtain ⟨⟨n1,n2⟩,n3,n4⟩ := hnd;have hpbl := hlt pb (by simp)
  have hfl : ∀ k,k ∈ L.flatMap (·.2.2) → k < H.length := fun k hk => hlt k (aF _ (aF _ hk));refine ⟨by rw [hpb,aC,cF],by rw [hpo];simp,fun f hf => ?_,?_⟩
  · rcases bD.1 hf with hf | hf
    · refine (h.n f hf).frame fun k hkf => ?_
      have hm : k ∈ L.flatMap (·.2.2) := dK.2 ⟨f,hf,hkf⟩;exact hk k (hfl k hm) (fun e1 => n3 (e1 ▸ hm)) (fun e1 => n2 (e1 ▸ hm))
    · rw [bE.1 hf];exact .inl ⟨rfl,ho,rfl⟩
  · rw [eW];simp only [fD,jO,List.append_nil,aN,aQ,not_or];exact ⟨⟨by omega,n2⟩,fun hm => by have := hfl _ hm;omega,n4⟩
theorem iZ.addFr {H H' : Hp} {pb po po' : Nat} {L : OL} (h : iZ H pb po L) {o' : Od} (hle : H.length ≤ H'.length) (hpo' : H.length ≤ po') (hk : ∀ k,k < H.length → k ≠ po → k ≠ pb → H'[k]? = H[k]?) : Fr H (vO pb po L) H' (vO pb po' (L ++ [(o',.nils,[])])) := by
  refine ⟨hle,fun k hkl hkA => ?_,fun k hkA => ?_⟩
  · exact hk k hkl (fun e1 => hkA (by subst e1;simp)) (fun e1 => hkA (by subst e1;simp))
  · rcases aQ.1 hkA with rfl | hkA
    · exact .inl (by simp)
    rcases aQ.1 hkA with rfl | hkA
    · exact .inr hpo'
    rw [eW] at hkA;simp only [fD,jO,List.append_nil] at hkA;exact .inl (aF _ (aF _ hkA))
theorem KF {L : OL} {i : Nat} {e : Od × AV × List Nat} (h : L[i]? = some e) : (L.map fun e => iV e.1 e.2.1)[i]? = some (iV e.1 e.2.1) := by rw [aR,h];rfl
theorem wW {L : OL} {j : Int} {e : Od × AV × List Nat} (h : L[j.toNat]? = some e) : (L.map fun e => iV e.1 e.2.1)[0 + j.toNat]? = some (iV e.1 e.2.1) := by rw [Nat.zero_add];exact KF h
theorem F3 {L : OL} {i : Nat} (h : i < L.length) : ∃ e,L[i]? = some e ∧ (L.map (·.1)).getD i gW = e.1 := by
  refine ⟨L[i],aB h,?_⟩;rw [aD,aR,aB h];rfl
theorem R3 {L : OL} {i : Nat} {o' : Od} {x' : AV} {B : List Nat} : (L.set i (o',x',B)).map (·.1) = (L.map (·.1)).set i o' := by rw [nU]
theorem iZ.more {H H' : Hp} {pb po : Nat} {L : OL} (h : iZ H pb po L) (hk : ∀ k,k < H.length → H'[k]? = H[k]?) : iZ H' pb po L := h.frame fun k hkA => hk k (h.lt k hkA)
theorem gN {H Z : Hp} {k : Nat} (hk : k < H.length) : (H ++ Z)[k]? = H[k]? := by rw [aG hk]
theorem eK {H : Hp} {k q : Nat} {x : AB} (hk : k ≠ q) : (H.set q x)[k]? = H[k]? := by rw [gD (Ne.symm hk)]
end Go.Or
