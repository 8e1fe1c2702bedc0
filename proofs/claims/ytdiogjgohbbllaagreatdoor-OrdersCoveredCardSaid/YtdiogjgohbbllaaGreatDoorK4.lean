/-
  Texts of the logic and of the layer,in one module (part 4).
-/
import Derived.Test.YtdiogjgohbbllaaGreatDoorK3
import Derived.Test.YtdiogjgohbbllaaGreatDoorRows
import Derived.KernelRfl
import Derived.Shelf.Lay
import Derived.Shelf.Strings.Builder1
import Derived.Shelf.Strconv.Itoa4
import Derived.Ground.NamesProg
set_option linter.unusedVariables false
set_option linter.unusedSimpArgs false
set_option linter.unnecessarySimpa false
namespace Go.Proofs.YtdiogjgohbbllaaGreatDoor
open Go Go.Ab
def XQ : List (Nat × TI) := [(1,⟨false,1,8,[.nilFunc]⟩),
  (2,⟨false,1,8,[.int .i64 0]⟩),
  (3,⟨false,1,8,[.int .i64 0]⟩),
  (4,⟨false,1,1,[.bool false]⟩),
  (5,⟨false,1,1,[.int .u8 0]⟩),
  (6,⟨false,1,1,[.int .u8 0]⟩),
  (7,⟨true,4,24,[.int .i64 0,.int .i64 0,.bool false,.int .u8 0]⟩),
  (8,⟨true,4,24,[.int .i64 0,.int .i64 0,.bool false,.int .u8 0]⟩),
  (9,⟨false,1,16,[.string ⟨#[]⟩]⟩),
  (10,⟨false,1,16,[.string ⟨#[]⟩]⟩),
  (11,⟨false,1,16,[.string ⟨#[]⟩]⟩),
  (12,⟨false,1,8,[.int .u64 0]⟩),
  (13,⟨true,2,24,[.string ⟨#[]⟩,.int .u64 0]⟩),
  (14,⟨true,2,24,[.string ⟨#[]⟩,.int .u64 0]⟩),
  (15,⟨false,1,8,[.pointer none]⟩),
  (16,⟨false,1,8,[.pointer none]⟩),
  (17,⟨false,1,8,[.pointer none]⟩),
  (18,⟨true,1,8,[.pointer none]⟩),
  (19,⟨true,1,8,[.pointer none]⟩),
  (21,⟨false,1,4,[.int .i32 0]⟩),
  (22,⟨false,1,24,[.slice none 0 0]⟩),
  (23,⟨false,1,24,[.slice none 0 0]⟩),
  (24,⟨false,1,24,[.slice none 0 0]⟩),
  (25,⟨false,1,8,[.nilFunc]⟩),
  (26,⟨false,1,8,[.nilFunc]⟩),
  (27,⟨false,1,8,[.nilFunc]⟩),
  (28,⟨false,1,8,[.pointer none]⟩),
  (29,⟨false,1,8,[.nilFunc]⟩),
  (30,⟨false,1,8,[.int .i64 0]⟩),
  (32,⟨false,1,8,[.nilFunc]⟩),
  (33,⟨false,1,24,[.slice none 0 0]⟩),
  (34,⟨true,6,64,[.int .i64 0,.int .i64 0,.int .i64 0,.int .i64 0,.int .i64 0,.slice none 0 0]⟩),
  (35,⟨true,6,64,[.int .i64 0,.int .i64 0,.int .i64 0,.int .i64 0,.int .i64 0,.slice none 0 0]⟩),
  (36,⟨false,1,8,[.nilFunc]⟩),
  (37,⟨true,3,40,[.slice none 0 0,.int .i64 0,.int .i64 0]⟩),
  (38,⟨true,3,40,[.slice none 0 0,.int .i64 0,.int .i64 0]⟩),
  (40,⟨false,1,8,[.nilFunc]⟩),
  (41,⟨false,1,24,[.slice none 0 0]⟩),
  (42,⟨false,1,8,[.nilFunc]⟩),
  (43,⟨false,1,8,[.nilFunc]⟩),
  (44,⟨false,1,8,[.nilFunc]⟩),
  (45,⟨false,1,8,[.nilFunc]⟩),
  (47,⟨false,1,8,[.nilFunc]⟩),
  (48,⟨false,1,8,[.nilFunc]⟩),
  (50,⟨false,1,8,[.nilFunc]⟩),
  (51,⟨false,1,8,[.nilFunc]⟩),
  (52,⟨false,1,8,[.nilFunc]⟩),
  (53,⟨false,1,24,[.slice none 0 0]⟩),
  (55,⟨false,1,8,[.nilFunc]⟩),
  (56,⟨false,1,8,[.nilFunc]⟩),
  (57,⟨false,1,8,[.nilFunc]⟩),
  (58,⟨false,1,8,[.nilFunc]⟩),
  (59,⟨true,3,24,[.int .i64 0,.int .i64 0,.int .i64 0]⟩),
  (60,⟨true,3,24,[.int .i64 0,.int .i64 0,.int .i64 0]⟩),
  (61,⟨false,1,8,[.nilFunc]⟩),
  (62,⟨false,1,24,[.slice none 0 0]⟩),
  (63,⟨false,1,8,[.nilFunc]⟩),
  (64,⟨false,1,8,[.nilFunc]⟩),
  (65,⟨true,2,16,[.int .i64 0,.int .i64 0]⟩),
  (66,⟨true,2,16,[.int .i64 0,.int .i64 0]⟩),
  (67,⟨false,1,8,[.pointer none]⟩),
  (68,⟨false,1,8,[.nilFunc]⟩),
  (69,⟨false,1,8,[.nilFunc]⟩),
  (70,⟨false,1,24,[.slice none 0 0]⟩),
  (71,⟨true,1,24,[.slice none 0 0]⟩),
  (72,⟨true,1,24,[.slice none 0 0]⟩),
  (73,⟨false,1,8,[.nilFunc]⟩),
  (74,⟨true,4,64,[.slice none 0 0,.int .i64 0,.int .i64 0,.slice none 0 0]⟩),
  (75,⟨true,4,64,[.slice none 0 0,.int .i64 0,.int .i64 0,.slice none 0 0]⟩),
  (76,⟨false,1,8,[.nilFunc]⟩),
  (77,⟨false,1,8,[.nilFunc]⟩),
  (79,⟨false,1,8,[.nilFunc]⟩),
  (81,⟨false,1,8,[.nilFunc]⟩),
  (82,⟨false,1,8,[.nilFunc]⟩),
  (83,⟨true,3,24,[.int .i64 0,.int .i64 0,.bool false]⟩),
  (84,⟨true,3,24,[.int .i64 0,.int .i64 0,.bool false]⟩),
  (86,⟨true,2,24,[.string ⟨#[]⟩,.int .i64 0]⟩),
  (87,⟨true,2,24,[.string ⟨#[]⟩,.int .i64 0]⟩),
  (88,⟨false,1,24,[.slice none 0 0]⟩),
  (89,⟨false,1,8,[.nilFunc]⟩),
  (90,⟨false,1,8,[.nilFunc]⟩),
  (91,⟨false,1,24,[.slice none 0 0]⟩),
  (92,⟨true,1,24,[.slice none 0 0]⟩),
  (93,⟨true,1,24,[.slice none 0 0]⟩),
  (95,⟨true,4,64,[.slice none 0 0,.int .i64 0,.int .i64 0,.slice none 0 0]⟩),
  (96,⟨true,4,64,[.slice none 0 0,.int .i64 0,.int .i64 0,.slice none 0 0]⟩),
  (97,⟨false,1,8,[.pointer none]⟩),
  (98,⟨false,1,8,[.nilFunc]⟩),
  (99,⟨true,3,24,[.int .i64 0,.int .i64 0,.int .i64 0]⟩),
  (100,⟨true,3,24,[.int .i64 0,.int .i64 0,.int .i64 0]⟩),
  (101,⟨false,1,8,[.nilFunc]⟩),
  (102,⟨false,1,8,[.nilFunc]⟩),
  (103,⟨false,1,8,[.map none]⟩),
  (104,⟨false,1,8,[.nilFunc]⟩),
  (105,⟨false,1,8,[.nilFunc]⟩),
  (106,⟨false,1,8,[.nilFunc]⟩),
  (107,⟨false,1,8,[.nilFunc]⟩),
  (109,⟨false,1,8,[.nilFunc]⟩),
  (112,⟨false,1,8,[.nilFunc]⟩),
  (115,⟨false,1,8,[.nilFunc]⟩),
  (116,⟨false,1,8,[.nilFunc]⟩),
  (117,⟨false,1,8,[.pointer none]⟩),
  (118,⟨false,1,8,[.nilFunc]⟩),
  (119,⟨false,1,8,[.nilFunc]⟩),
  (120,⟨false,1,8,[.pointer none]⟩),
  (121,⟨false,1,24,[.slice none 0 0]⟩),
  (122,⟨true,2,32,[.pointer none,.slice none 0 0]⟩),
  (123,⟨true,2,32,[.pointer none,.slice none 0 0]⟩),
  (127,⟨false,1,8,[.nilFunc]⟩),
  (128,⟨false,1,8,[.nilFunc]⟩),
  (129,⟨false,1,8,[.nilFunc]⟩),
  (130,⟨false,1,8,[.pointer none]⟩),
  (133,⟨false,1,8,[.nilFunc]⟩),
  (134,⟨false,1,8,[.pointer none]⟩),
  (135,⟨false,1,8,[.nilFunc]⟩),
  (140,⟨false,1,8,[.nilFunc]⟩),
  (142,⟨false,1,8,[.nilFunc]⟩),
  (143,⟨false,1,8,[.nilFunc]⟩),
  (144,⟨false,1,8,[.nilFunc]⟩),
  (145,⟨false,1,8,[.nilFunc]⟩),
  (146,⟨false,1,8,[.nilFunc]⟩),
  (148,⟨false,1,8,[.nilFunc]⟩),
  (149,⟨false,1,8,[.nilFunc]⟩),
  (150,⟨false,1,8,[.nilFunc]⟩),
  (151,⟨false,1,8,[.pointer none]⟩),
  (152,⟨true,2,24,[.string ⟨#[]⟩,.bool false]⟩),
  (153,⟨true,2,24,[.string ⟨#[]⟩,.bool false]⟩),
  (155,⟨true,2,24,[.string ⟨#[]⟩,.bool false]⟩),
  (156,⟨true,2,24,[.string ⟨#[]⟩,.bool false]⟩),
  (157,⟨false,1,8,[.nilFunc]⟩),
  (158,⟨false,1,8,[.map none]⟩),
  (162,⟨false,1,8,[.nilFunc]⟩),
  (164,⟨false,1,8,[.nilFunc]⟩),
  (165,⟨false,1,8,[.nilFunc]⟩),
  (169,⟨false,1,8,[.nilFunc]⟩),
  (170,⟨false,1,8,[.nilFunc]⟩),
  (171,⟨false,1,8,[.nilFunc]⟩),
  (179,⟨false,1,8,[.int .i64 0]⟩),
  (187,⟨false,1,4,[.int .u32 0]⟩),
  (193,⟨true,3,48,[.string ⟨#[]⟩,.string ⟨#[]⟩,.nilIface]⟩),
  (194,⟨true,3,48,[.string ⟨#[]⟩,.string ⟨#[]⟩,.nilIface]⟩),
  (197,⟨false,1,8,[.nilFunc]⟩),
  (199,⟨false,1,8,[.pointer none]⟩),
  (200,⟨true,1,16,[.string ⟨#[]⟩]⟩),
  (201,⟨true,1,16,[.string ⟨#[]⟩]⟩),
  (203,⟨true,64,64,[.int .u8 0,.int .u8 0,.int .u8 0,.int .u8 0,.int .u8 0,.int .u8 0,.int .u8 0,.int .u8 0,.int .u8 0,.int .u8 0,.int .u8 0,.int .u8 0,.int .u8 0,.int .u8 0,.int .u8 0,.int .u8 0,.int .u8 0,.int .u8 0,.int .u8 0,.int .u8 0,.int .u8 0,.int .u8 0,.int .u8 0,.int .u8 0,.int .u8 0,.int .u8 0,.int .u8 0,.int .u8 0,.int .u8 0,.int .u8 0,.int .u8 0,.int .u8 0,.int .u8 0,.int .u8 0,.int .u8 0,.int .u8 0,.int .u8 0,.int .u8 0,.int .u8 0,.int .u8 0,.int .u8 0,.int .u8 0,.int .u8 0,.int .u8 0,.int .u8 0,.int .u8 0,.int .u8 0,.int .u8 0,.int .u8 0,.int .u8 0,.int .u8 0,.int .u8 0,.int .u8 0,.int .u8 0,.int .u8 0,.int .u8 0,.int .u8 0,.int .u8 0,.int .u8 0,.int .u8 0,.int .u8 0,.int .u8 0,.int .u8 0,.int .u8 0]⟩),
  (204,⟨true,4,40,[.pointer none,.pointer none,.pointer none,.string ⟨#[]⟩]⟩),
  (205,⟨true,4,40,[.pointer none,.pointer none,.pointer none,.string ⟨#[]⟩]⟩),
  (209,⟨false,1,1,[.int .u8 0]⟩),
  (210,⟨false,1,1,[.int .u8 0]⟩),
  (211,⟨false,1,8,[.nilFunc]⟩),
  (212,⟨false,1,4,[.int .i32 0]⟩),
  (213,⟨false,1,4,[.int .i32 0]⟩),
  (214,⟨true,11,48,[.int .u64 0,.int .u64 0,.int .u32 0,.int .u8 0,.int .u8 0,.int .u8 0,.int .u8 0,.nilFunc,.pointer none,.int .i32 0,.int .i32 0]⟩),
  (215,⟨true,11,48,[.int .u64 0,.int .u64 0,.int .u32 0,.int .u8 0,.int .u8 0,.int .u8 0,.int .u8 0,.nilFunc,.pointer none,.int .i32 0,.int .i32 0]⟩)]
set_option maxRecDepth 8000 in
theorem SB : CR (fun t i => ∃ inf z,Tryz.prog.info? t = some inf ∧ inf.size = i.size ∧ inf.bytes = i.bytes ∧ inf.zero = some z ∧ z.cells.toList = i.zero ∧ i.zero.length = i.size ∧ W7 Tryz.prog t = some i.agg) XQ :=
  ⟨tq (.nilFunc),tq (.int .i64 0),tq (.int .i64 0),tq (.bool false),tq (.int .u8 0),tq (.int .u8 0),tq (.agg #[.int .i64 0,.int .i64 0,.bool false,.int .u8 0]),tq (.agg #[.int .i64 0,.int .i64 0,.bool false,.int .u8 0]),tq (.string ⟨#[]⟩),tq (.string ⟨#[]⟩),tq (.string ⟨#[]⟩),tq (.int .u64 0),tq (.agg #[.string ⟨#[]⟩,.int .u64 0]),tq (.agg #[.string ⟨#[]⟩,.int .u64 0]),tq (.pointer none),tq (.pointer none),tq (.pointer none),tq (.agg #[.pointer none]),tq (.agg #[.pointer none]),tq (.int .i32 0),tq (.slice none 0 0),tq (.slice none 0 0),tq (.slice none 0 0),tq (.nilFunc),tq (.nilFunc),tq (.nilFunc),tq (.pointer none),tq (.nilFunc),tq (.int .i64 0),tq (.nilFunc),tq (.slice none 0 0),tq (.agg #[.int .i64 0,.int .i64 0,.int .i64 0,.int .i64 0,.int .i64 0,.slice none 0 0]),tq (.agg #[.int .i64 0,.int .i64 0,.int .i64 0,.int .i64 0,.int .i64 0,.slice none 0 0]),tq (.nilFunc),tq (.agg #[.slice none 0 0,.int .i64 0,.int .i64 0]),tq (.agg #[.slice none 0 0,.int .i64 0,.int .i64 0]),tq (.nilFunc),tq (.slice none 0 0),tq (.nilFunc),tq (.nilFunc),tq (.nilFunc),tq (.nilFunc),tq (.nilFunc),tq (.nilFunc),tq (.nilFunc),tq (.nilFunc),tq (.nilFunc),tq (.slice none 0 0),tq (.nilFunc),tq (.nilFunc),tq (.nilFunc),tq (.nilFunc),tq (.agg #[.int .i64 0,.int .i64 0,.int .i64 0]),tq (.agg #[.int .i64 0,.int .i64 0,.int .i64 0]),tq (.nilFunc),tq (.slice none 0 0),tq (.nilFunc),tq (.nilFunc),tq (.agg #[.int .i64 0,.int .i64 0]),tq (.agg #[.int .i64 0,.int .i64 0]),tq (.pointer none),tq (.nilFunc),tq (.nilFunc),tq (.slice none 0 0),tq (.agg #[.slice none 0 0]),tq (.agg #[.slice none 0 0]),tq (.nilFunc),tq (.agg #[.slice none 0 0,.int .i64 0,.int .i64 0,.slice none 0 0]),tq (.agg #[.slice none 0 0,.int .i64 0,.int .i64 0,.slice none 0 0]),tq (.nilFunc),tq (.nilFunc),tq (.nilFunc),tq (.nilFunc),tq (.nilFunc),tq (.agg #[.int .i64 0,.int .i64 0,.bool false]),tq (.agg #[.int .i64 0,.int .i64 0,.bool false]),tq (.agg #[.string ⟨#[]⟩,.int .i64 0]),tq (.agg #[.string ⟨#[]⟩,.int .i64 0]),tq (.slice none 0 0),tq (.nilFunc),tq (.nilFunc),tq (.slice none 0 0),tq (.agg #[.slice none 0 0]),tq (.agg #[.slice none 0 0]),tq (.agg #[.slice none 0 0,.int .i64 0,.int .i64 0,.slice none 0 0]),tq (.agg #[.slice none 0 0,.int .i64 0,.int .i64 0,.slice none 0 0]),tq (.pointer none),tq (.nilFunc),tq (.agg #[.int .i64 0,.int .i64 0,.int .i64 0]),tq (.agg #[.int .i64 0,.int .i64 0,.int .i64 0]),tq (.nilFunc),tq (.nilFunc),tq (.map none),tq (.nilFunc),tq (.nilFunc),tq (.nilFunc),tq (.nilFunc),tq (.nilFunc),tq (.nilFunc),tq (.nilFunc),tq (.nilFunc),tq (.pointer none),tq (.nilFunc),tq (.nilFunc),tq (.pointer none),tq (.slice none 0 0),tq (.agg #[.pointer none,.slice none 0 0]),tq (.agg #[.pointer none,.slice none 0 0]),tq (.nilFunc),tq (.nilFunc),tq (.nilFunc),tq (.pointer none),tq (.nilFunc),tq (.pointer none),tq (.nilFunc),tq (.nilFunc),tq (.nilFunc),tq (.nilFunc),tq (.nilFunc),tq (.nilFunc),tq (.nilFunc),tq (.nilFunc),tq (.nilFunc),tq (.nilFunc),tq (.pointer none),tq (.agg #[.string ⟨#[]⟩,.bool false]),tq (.agg #[.string ⟨#[]⟩,.bool false]),tq (.agg #[.string ⟨#[]⟩,.bool false]),tq (.agg #[.string ⟨#[]⟩,.bool false]),tq (.nilFunc),tq (.map none),tq (.nilFunc),tq (.nilFunc),tq (.nilFunc),tq (.nilFunc),tq (.nilFunc),tq (.nilFunc),tq (.int .i64 0),tq (.int .u32 0),tq (.agg #[.string ⟨#[]⟩,.string ⟨#[]⟩,.nilIface]),tq (.agg #[.string ⟨#[]⟩,.string ⟨#[]⟩,.nilIface]),tq (.nilFunc),tq (.pointer none),tq (.agg #[.string ⟨#[]⟩]),tq (.agg #[.string ⟨#[]⟩]),tq (.agg #[.int .u8 0,.int .u8 0,.int .u8 0,.int .u8 0,.int .u8 0,.int .u8 0,.int .u8 0,.int .u8 0,.int .u8 0,.int .u8 0,.int .u8 0,.int .u8 0,.int .u8 0,.int .u8 0,.int .u8 0,.int .u8 0,.int .u8 0,.int .u8 0,.int .u8 0,.int .u8 0,.int .u8 0,.int .u8 0,.int .u8 0,.int .u8 0,.int .u8 0,.int .u8 0,.int .u8 0,.int .u8 0,.int .u8 0,.int .u8 0,.int .u8 0,.int .u8 0,.int .u8 0,.int .u8 0,.int .u8 0,.int .u8 0,.int .u8 0,.int .u8 0,.int .u8 0,.int .u8 0,.int .u8 0,.int .u8 0,.int .u8 0,.int .u8 0,.int .u8 0,.int .u8 0,.int .u8 0,.int .u8 0,.int .u8 0,.int .u8 0,.int .u8 0,.int .u8 0,.int .u8 0,.int .u8 0,.int .u8 0,.int .u8 0,.int .u8 0,.int .u8 0,.int .u8 0,.int .u8 0,.int .u8 0,.int .u8 0,.int .u8 0,.int .u8 0]),tq (.agg #[.pointer none,.pointer none,.pointer none,.string ⟨#[]⟩]),tq (.agg #[.pointer none,.pointer none,.pointer none,.string ⟨#[]⟩]),tq (.int .u8 0),tq (.int .u8 0),tq (.nilFunc),tq (.int .i32 0),tq (.int .i32 0),tq (.agg #[.int .u64 0,.int .u64 0,.int .u32 0,.int .u8 0,.int .u8 0,.int .u8 0,.int .u8 0,.nilFunc,.pointer none,.int .i32 0,.int .i32 0]),tq (.agg #[.int .u64 0,.int .u64 0,.int .u32 0,.int .u8 0,.int .u8 0,.int .u8 0,.int .u8 0,.nilFunc,.pointer none,.int .i32 0,.int .i32 0]),
   trivial⟩
def RP : List (Nat × Nat) := [(22,84),(23,60),(24,35),(33,100),(41,53),(53,66),(62,3),(70,75),(88,87),(91,96),(121,5)]
theorem ML : CR (fun t e => Tryz.prog.underlying t = some (.slice e)) RP := ⟨kq,kq,kq,kq,kq,kq,kq,kq,kq,kq,kq,trivial⟩
def WG : List (Nat × (Nat × Nat)) := [(203,(64,5)),(206,(0,16))]
theorem QP : CR (fun t p => Tryz.prog.underlying t = some (.array p.1 p.2)) WG := ⟨kq,kq,trivial⟩
def FH : List (Nat × List (Nat × Nat)) := [(7,[(0,1),(1,1),(2,1),(3,1)]),(8,[(0,1),(1,1),(2,1),(3,1)]),(13,[(0,1),(1,1)]),(14,[(0,1),(1,1)]),(18,[(0,1)]),(19,[(0,1)]),(34,[(0,1),(1,1),(2,1),(3,1),(4,1),(5,1)]),(35,[(0,1),(1,1),(2,1),(3,1),(4,1),(5,1)]),(37,[(0,1),(1,1),(2,1)]),(38,[(0,1),(1,1),(2,1)]),(59,[(0,1),(1,1),(2,1)]),(60,[(0,1),(1,1),(2,1)]),(65,[(0,1),(1,1)]),(66,[(0,1),(1,1)]),(71,[(0,1)]),(72,[(0,1)]),(74,[(0,3),(3,1)]),(75,[(0,3),(3,1)]),(83,[(0,1),(1,1),(2,1)]),(84,[(0,1),(1,1),(2,1)]),(86,[(0,1),(1,1)]),(87,[(0,1),(1,1)]),(92,[(0,1)]),(93,[(0,1)]),(95,[(0,3),(3,1)]),(96,[(0,3),(3,1)]),(99,[(0,1),(1,1),(2,1)]),(100,[(0,1),(1,1),(2,1)]),(122,[(0,1),(1,1)]),(123,[(0,1),(1,1)]),(152,[(0,1),(1,1)]),(153,[(0,1),(1,1)]),(155,[(0,1),(1,1)]),(156,[(0,1),(1,1)]),(193,[(0,1),(1,1),(2,1)]),(194,[(0,1),(1,1),(2,1)]),(200,[(0,1)]),(201,[(0,1)]),(204,[(0,1),(1,1),(2,1),(3,1)]),(205,[(0,1),(1,1),(2,1),(3,1)]),(207,[(0,0)]),(208,[(0,0)]),(214,[(0,1),(1,1),(2,1),(3,1),(4,1),(5,1),(6,1),(7,1),(8,1),(9,1),(10,1)]),(215,[(0,1),(1,1),(2,1),(3,1),(4,1),(5,1),(6,1),(7,1),(8,1),(9,1),(10,1)])]
theorem DR : CR (fun t l => T6 Tryz.prog t = some l) FH := ⟨kq,kq,kq,kq,kq,kq,kq,kq,kq,kq,kq,kq,kq,kq,kq,kq,kq,kq,kq,kq,kq,kq,kq,kq,kq,kq,kq,kq,kq,kq,kq,kq,kq,kq,kq,kq,kq,kq,kq,kq,kq,kq,kq,kq,trivial⟩
def MI : List ((Nat × Nat) × Nat) := [((7,0),0),((7,1),1),((7,2),2),((7,3),3),((8,0),0),((8,1),1),((8,2),2),((8,3),3),((13,0),0),((13,1),1),((14,0),0),((14,1),1),((18,0),0),((19,0),0),((34,0),0),((34,1),1),((34,2),2),((34,3),3),((34,4),4),((34,5),5),((35,0),0),((35,1),1),((35,2),2),((35,3),3),((35,4),4),((35,5),5),((37,0),0),((37,1),1),((37,2),2),((38,0),0),((38,1),1),((38,2),2),((59,0),0),((59,1),1),((59,2),2),((60,0),0),((60,1),1),((60,2),2),((65,0),0),((65,1),1),((66,0),0),((66,1),1),((71,0),0),((72,0),0),((74,0),0),((74,1),3),((75,0),0),((75,1),3),((83,0),0),((83,1),1),((83,2),2),((84,0),0),((84,1),1),((84,2),2),((86,0),0),((86,1),1),((87,0),0),((87,1),1),((92,0),0),((93,0),0),((95,0),0),((95,1),3),((96,0),0),((96,1),3),((99,0),0),((99,1),1),((99,2),2),((100,0),0),((100,1),1),((100,2),2),((122,0),0),((122,1),1),((123,0),0),((123,1),1),((152,0),0),((152,1),1),((153,0),0),((153,1),1),((155,0),0),((155,1),1),((156,0),0),((156,1),1),((193,0),0),((193,1),1),((193,2),2),((194,0),0),((194,1),1),((194,2),2),((200,0),0),((201,0),0),((204,0),0),((204,1),1),((204,2),2),((204,3),3),((205,0),0),((205,1),1),((205,2),2),((205,3),3),((214,0),0),((214,1),1),((214,2),2),((214,3),3),((214,4),4),((214,5),5),((214,6),6),((214,7),7),((214,8),8),((214,9),9),((214,10),10),((215,0),0),((215,1),1),((215,2),2),((215,3),3),((215,4),4),((215,5),5),((215,6),6),((215,7),7),((215,8),8),((215,9),9),((215,10),10)]
theorem IB : CR (fun (tf : Nat × Nat) o => ∃ fs fd inf,Tryz.prog.underlying tf.1 = some (.struct fs) ∧ fs[tf.2]? = some fd ∧ fd.offset = o ∧ Tryz.prog.info? fd.type = some inf ∧ inf.size ≠ 0) MI :=
  ⟨fq,fq,fq,fq,fq,fq,fq,fq,fq,fq,fq,fq,fq,fq,fq,fq,fq,fq,fq,fq,fq,fq,fq,fq,fq,fq,fq,fq,fq,fq,fq,fq,fq,fq,fq,fq,fq,fq,fq,fq,fq,fq,fq,fq,tY (n := 2) (by kernel_rfl),fq,tY (n := 2) (by kernel_rfl),fq,fq,fq,fq,fq,fq,fq,fq,fq,fq,fq,fq,fq,tY (n := 2) (by kernel_rfl),fq,tY (n := 2) (by kernel_rfl),fq,fq,fq,fq,fq,fq,fq,fq,fq,fq,fq,fq,fq,fq,fq,fq,fq,fq,fq,fq,fq,fq,fq,fq,fq,fq,fq,fq,fq,fq,fq,fq,fq,fq,fq,fq,fq,fq,fq,fq,fq,fq,fq,fq,fq,fq,fq,fq,fq,fq,fq,fq,fq,fq,fq,fq,fq,
   trivial⟩
theorem fK : Tryz.prog.follows .mixedOrders = true := by kernel_rfl
def T : lR Tryz.prog where
  ti := G5 XQ
  tiOk := fun _ _ h => tR SB h
  elem := G5 RP
  elemOk := fun _ _ h => tR ML h
  field := fun t f => U1 MI t f
  fieldOk := fun _ _ _ h => P7 IB h
  arr := G5 WG
  arrOk := fun _ _ _ h => tR QP h
  places := G5 FH
  placesOk := fun _ _ h => tR DR h
end Go.Proofs.YtdiogjgohbbllaaGreatDoor
namespace Go.Or
open Go Go.Ab
def uX {α : Type} (p : α → Bool) : List α → Nat → Int
  | [],_ => -1
  | x :: l,k => if p x = true then k else uX p l (k + 1)
theorem FR {α : Type} {p : α → Bool} {l : List α} {k : Nat} (h : k < l.length) : uX p (l.drop k) k = if p l[k] = true then (k : Int) else uX p (l.drop (k + 1)) (k + 1) := by
  rw [aS h];rfl
theorem BG {α : Type} {p : α → Bool} {l : List α} {k : Nat} (h : l.length ≤ k) : uX p (l.drop k) k = -1 := by
  rw [dJ h];rfl
theorem H3 {α : Type} (p : α → Bool) : ∀ (l : List α) (k : Nat), decide (uX p l k ≥ 0) = l.any p
  | [],k => by simp [uX]
  | x :: l,k => by
    unfold uX;split
    · rename_i h;simp [h]
    · rename_i h;rw [H3 p l (k + 1)];simp [h]
theorem Q2 {α : Type} (p : α → Bool) : ∀ (l : List α) (k : Nat), (uX p l k = -1 ∧ ∀ x, x ∈ l → p x = false) ∨ ∃ (j : Nat) (hj : j < l.length), uX p l k = ((k + j : Nat) : Int) ∧ p l[j] = true ∧ ∀ x, x ∈ l.take j → p x = false
  | [],k => .inl ⟨rfl,fun x hx => by cases hx⟩
  | y :: l,k => by
    unfold uX;cases hp : p y with
    | true => exact .inr ⟨0,by simp,by rw [if_pos rfl];rfl,by simpa using hp,fun x hx => by simp at hx⟩
    | false =>
      rw [if_neg (by simp)]
      rcases Q2 p l (k + 1) with ⟨h1,h2⟩ | ⟨j,hj,h1,h2,h3⟩
      · refine .inl ⟨h1,fun x hx => ?_⟩
        rcases aR.1 hx with rfl | hx
        · exact hp
        · exact h2 x hx
      · refine .inr ⟨j + 1,by simp;omega,by rw [h1];omega,by simpa using h2,fun x hx => ?_⟩
        rw [oQ] at hx;rcases aR.1 hx with rfl | hx
        · exact hp
        · exact h3 x hx
theorem vG (l : List Wt) : ∀ e,e ∈ bZ l → e.length = 3 := by intro e he;obtain ⟨n,_,rfl⟩ := aJ.1 he;rfl
theorem gV (l : List Wt) : (bZ l).length = l.length := bI _
theorem RX (l : List Wt) : (bZ l).flatten.all AV.one = true := by
  induction l with
  | nil => rfl
  | cons x l ih => exact ih
theorem vH (l : List Wt) : ∀ e,e ∈ bZ l → AV.idfL e = true := by intro e he;obtain ⟨x,_,rfl⟩ := aJ.1 he;rfl
theorem JC {l : List Wt} {k : Nat} (h : k < l.length) : (bZ l)[(k : Int).toNat]? = some ([AV.i l[k].1,AV.i l[k].2.1,AV.i l[k].2.2]) := by simp [h]
theorem vJ (l : List Tk) : ∀ e,e ∈ eO l → e.length = 2 := by intro e he;obtain ⟨n,_,rfl⟩ := aJ.1 he;rfl
theorem oR (l : List Tk) : (eO l).length = l.length := bI _
theorem SA (l : List Tk) : (eO l).flatten.all AV.one = true := by
  induction l with
  | nil => rfl
  | cons x l ih => exact ih
theorem nX (l : List Tk) : ∀ e,e ∈ eO l → AV.idfL e = true := by intro e he;obtain ⟨x,_,rfl⟩ := aJ.1 he;rfl
theorem S6 {l : List Tk} {k : Nat} (h : k < l.length) : (eO l)[(k : Int).toNat]? = some ([AV.i l[k].1,AV.i l[k].2]) := by simp [h]
theorem lB (l : List Bo) : ∀ e,e ∈ eR l → e.length = 3 := by intro e he;obtain ⟨n,_,rfl⟩ := aJ.1 he;rfl
theorem gX (l : List Bo) : (eR l).length = l.length := bI _
theorem ES (l : List Bo) : (eR l).flatten.all AV.one = true := by
  induction l with
  | nil => rfl
  | cons x l ih => exact ih
theorem wA (l : List Bo) : ∀ e,e ∈ eR l → AV.idfL e = true := by intro e he;obtain ⟨x,_,rfl⟩ := aJ.1 he;rfl
theorem UA {l : List Bo} {k : Nat} (h : k < l.length) : (eR l)[(k : Int).toNat]? = some ([AV.i l[k].1,AV.i l[k].2.1,AV.i l[k].2.2]) := by simp [h]
theorem tT (l : List Lo) : ∀ e,e ∈ jF l → e.length = 3 := by intro e he;obtain ⟨n,_,rfl⟩ := aJ.1 he;rfl
theorem oU (l : List Lo) : (jF l).length = l.length := bI _
theorem PS {l : List Lo} {k : Nat} (h : k < l.length) : (jF l)[k]? = some ([AV.i l[k].1,AV.i l[k].2.1,AV.b l[k].2.2]) := by simp [h]
theorem DS (l : List Int) : ∀ e,e ∈ fT l → e.length = 1 := by intro e he;obtain ⟨n,_,rfl⟩ := aJ.1 he;rfl
theorem qZ (l : List Int) : (fT l).length = l.length := bI _
theorem eM (l : List Int) : ∀ e,e ∈ fT l → AV.idfL e = true := by intro e he;obtain ⟨x,_,rfl⟩ := aJ.1 he;rfl
theorem DT {l : List Int} {k : Nat} (h : k < l.length) : (fT l)[(k : Int).toNat]? = some ([AV.i l[k]]) := by simp [h]
end Go.Or
namespace Go.Proofs.YtdiogjgohbbllaaGreatDoor
open Go Go.Ab Go.Or
attribute [local irreducible] VC AW bR bN
set_option maxHeartbeats 4000000
theorem nP (l : List Nat) : ∀ i : Nat,i < 0 → l[i]? = some i := fun i h => absurd h (gI _)
theorem wD {a b : Bool} (h : a = b) : AV.b a = AV.b b := by rw [h]
theorem TD {l : List Wt} {F : FuncId} {caps : List AV} {p : Wt → Bool} (hl : l.length ≤ 1000000) (hi : AV.idfL caps = true) (hF : ∀ x,x ∈ l → bN Tryz.prog F (.agg [.i x.1,.i x.2.1,.i x.2.2] :: caps) [] (.b (p x)) []) :
    bN Tryz.prog 100 [.rowE (bZ l) 3,.clo (.func F) [] caps] [] (.i (uX p l 0)) [] := by
  have hlen : (bZ l).length = l.length := bI _;refine dC T Tryz.func100 rfl rfl rfl rfl ?_
  (repeat' (first|refine wS ?_|refine wB ?_|(refine rg 0 (aV ?_))|(refine rg 1 (mW rfl (qW T rfl (mV ?_))))|refine nZ ?_));refine eX (X := {k : Nat // k ≤ l.length ∧ uX p l 0 = uX p (l.drop k) k}) (fun k => [(0,.rowE (bZ l) 3),(1,.clo (.func F) [] caps),(7,.i (bZ l).length),(8,.i k.1)]) (fun _ => []) (fun k => l.length - k.1) ⟨0,by simp,rfl⟩ ⟨[],rfl,⟨rfl,by rw [fU hi];rfl,rfl,rfl,trivial⟩,trivial,bB,fun _ h => absurd h (gI _)⟩ ?_
  rintro ⟨k,hk,he⟩;dsimp only;by_cases hlt : k < l.length
  · have hc := hF l[k] (aI hlt);have hg := JC (l := l) hlt;rw [FR hlt] at he;generalize l[k] = y at *;cases hp : p y with
    | true =>
      rw [hp] at hc;rw [hp,if_pos rfl] at he
      (repeat' (first|refine wS ?_|refine wB ?_|refine wK ?_|refine wR ?_|refine wT ?_|(refine wC rfl ?_ ?_<;>(intro hb;(try simp only [nm] at hb);try (exfalso;omega)))|(refine rg 2 (vV (bA rfl rfl) ?_))|(refine rg 3 (mW rfl (aV ?_)))|(refine rg 4 (fF rfl (mW rfl (vV (ix T rfl (by omega) (vG l) hg) (lW T rfl (vV (by exact cN rfl rfl hc rfl (by simp [AV.idfL,AV.idf,hi]) rfl) ?_))))))|(refine rg 5 (mW rfl (aV ?_)))|refine nZ ?_));all_goals first | (exfalso;omega) | exact dZ (.inl rfl) rfl (by rw [he];rfl)
    | false =>
      rw [hp] at hc;rw [hp,if_neg (by simp)] at he
      (repeat' (first|refine wS ?_|refine wB ?_|refine wK ?_|refine wU ?_|(refine wC rfl ?_ ?_<;>(intro hb;(try simp only [nm] at hb);try (exfalso;omega)))|(refine rg 2 (vV (bA rfl rfl) ?_))|(refine rg 3 (mW rfl (aV ?_)))|(refine rg 4 (fF rfl (mW rfl (vV (ix T rfl (by omega) (vG l) hg) (lW T rfl (vV (by exact cN rfl rfl hc rfl (by simp [AV.idfL,AV.idf,hi]) rfl) ?_))))))|(refine rg 6 (vV (dS rfl rfl (by omega) (by omega)) (mV ?_)))|refine nZ ?_));all_goals first | (exfalso;omega) | exact ⟨⟨k + 1,hlt,he⟩,by dsimp only;omega,⟨[],rfl,⟨rfl,by rw [fU hi];rfl,rfl,rfl,trivial⟩,trivial,bB,fun _ h => absurd h (gI _)⟩⟩
  · rw [BG (by omega)] at he
    (repeat' (first|refine wS ?_|refine wR ?_|refine wE ?_|(refine wC rfl ?_ ?_<;>(intro hb;(try simp only [nm] at hb);try (exfalso;omega)))|(refine rg 2 (vV (bA rfl rfl) ?_))|(refine rg 7 (aV ?_))|refine nZ ?_));all_goals first | (exfalso;omega) | exact dZ (.inl rfl) rfl (by rw [he];rfl)
theorem FS {l : List Wt} {F : FuncId} {caps : List AV} {p : Wt → Bool} (hl : l.length ≤ 1000000) (hi : AV.idfL caps = true) (hF : ∀ x,x ∈ l → bN Tryz.prog F (.agg [.i x.1,.i x.2.1,.i x.2.2] :: caps) [] (.b (p x)) []) :
    bN Tryz.prog 51 [.rowE (bZ l) 3,.clo (.func F) [] caps] [] (.b (l.any p)) [] := by
  have hc := TD hl hi hF;rw [← H3 p l 0];refine dC T Tryz.func51 rfl rfl rfl rfl ?_
  (repeat' (first|refine wS ?_|refine wR ?_|(refine rg 0 (aV ?_))|(refine rg 1 (fF rfl (vV (by exact cN rfl rfl hc rfl (by simp [AV.idfL,AV.idf,hi]) rfl) ?_));refine vV (eV rfl rfl) (aV ?_))|refine nZ ?_));all_goals first | (exfalso;omega) | exact rQ
theorem LR {l : List Tk} {F : FuncId} {caps : List AV} {p : Tk → Bool} (hl : l.length ≤ 1000000) (hi : AV.idfL caps = true) (hF : ∀ x,x ∈ l → bN Tryz.prog F (.agg [.i x.1,.i x.2] :: caps) [] (.b (p x)) []) :
    bN Tryz.prog 106 [.rowE (eO l) 2,.clo (.func F) [] caps] [] (.i (uX p l 0)) [] := by
  have hlen : (eO l).length = l.length := bI _;refine dC T Tryz.func106 rfl rfl rfl rfl ?_
  (repeat' (first|refine wS ?_|refine wB ?_|(refine rg 0 (aV ?_))|(refine rg 1 (mW rfl (qW T rfl (mV ?_))))|refine nZ ?_));refine eX (X := {k : Nat // k ≤ l.length ∧ uX p l 0 = uX p (l.drop k) k}) (fun k => [(0,.rowE (eO l) 2),(1,.clo (.func F) [] caps),(7,.i (eO l).length),(8,.i k.1)]) (fun _ => []) (fun k => l.length - k.1) ⟨0,by simp,rfl⟩ ⟨[],rfl,⟨rfl,by rw [fU hi];rfl,rfl,rfl,trivial⟩,trivial,bB,fun _ h => absurd h (gI _)⟩ ?_
  rintro ⟨k,hk,he⟩;dsimp only;by_cases hlt : k < l.length
  · have hc := hF l[k] (aI hlt);have hg := S6 (l := l) hlt;rw [FR hlt] at he;generalize l[k] = y at *;cases hp : p y with
    | true =>
      rw [hp] at hc;rw [hp,if_pos rfl] at he
      (repeat' (first|refine wS ?_|refine wB ?_|refine wK ?_|refine wR ?_|refine wT ?_|(refine wC rfl ?_ ?_<;>(intro hb;(try simp only [nm] at hb);try (exfalso;omega)))|(refine rg 2 (vV (bA rfl rfl) ?_))|(refine rg 3 (mW rfl (aV ?_)))|(refine rg 4 (fF rfl (mW rfl (vV (ix T rfl (by omega) (vJ l) hg) (lW T rfl (vV (by exact cN rfl rfl hc rfl (by simp [AV.idfL,AV.idf,hi]) rfl) ?_))))))|(refine rg 5 (mW rfl (aV ?_)))|refine nZ ?_));all_goals first | (exfalso;omega) | exact dZ (.inl rfl) rfl (by rw [he];rfl)
    | false =>
      rw [hp] at hc;rw [hp,if_neg (by simp)] at he
      (repeat' (first|refine wS ?_|refine wB ?_|refine wK ?_|refine wU ?_|(refine wC rfl ?_ ?_<;>(intro hb;(try simp only [nm] at hb);try (exfalso;omega)))|(refine rg 2 (vV (bA rfl rfl) ?_))|(refine rg 3 (mW rfl (aV ?_)))|(refine rg 4 (fF rfl (mW rfl (vV (ix T rfl (by omega) (vJ l) hg) (lW T rfl (vV (by exact cN rfl rfl hc rfl (by simp [AV.idfL,AV.idf,hi]) rfl) ?_))))))|(refine rg 6 (vV (dS rfl rfl (by omega) (by omega)) (mV ?_)))|refine nZ ?_));all_goals first | (exfalso;omega) | exact ⟨⟨k + 1,hlt,he⟩,by dsimp only;omega,⟨[],rfl,⟨rfl,by rw [fU hi];rfl,rfl,rfl,trivial⟩,trivial,bB,fun _ h => absurd h (gI _)⟩⟩
  · rw [BG (by omega)] at he
    (repeat' (first|refine wS ?_|refine wR ?_|refine wE ?_|(refine wC rfl ?_ ?_<;>(intro hb;(try simp only [nm] at hb);try (exfalso;omega)))|(refine rg 2 (vV (bA rfl rfl) ?_))|(refine rg 7 (aV ?_))|refine nZ ?_));all_goals first | (exfalso;omega) | exact dZ (.inl rfl) rfl (by rw [he];rfl)
theorem PX {l : List Tk} {F : FuncId} {caps : List AV} {p : Tk → Bool} (hl : l.length ≤ 1000000) (hi : AV.idfL caps = true) (hF : ∀ x,x ∈ l → bN Tryz.prog F (.agg [.i x.1,.i x.2] :: caps) [] (.b (p x)) []) :
    bN Tryz.prog 56 [.rowE (eO l) 2,.clo (.func F) [] caps] [] (.b (l.any p)) [] := by
  have hc := LR hl hi hF;rw [← H3 p l 0];refine dC T Tryz.func56 rfl rfl rfl rfl ?_
  (repeat' (first|refine wS ?_|refine wR ?_|(refine rg 0 (aV ?_))|(refine rg 1 (fF rfl (vV (by exact cN rfl rfl hc rfl (by simp [AV.idfL,AV.idf,hi]) rfl) ?_));refine vV (eV rfl rfl) (aV ?_))|refine nZ ?_));all_goals first | (exfalso;omega) | exact rQ
theorem uU (l : List Wt) (hl : l.length ≤ 1000000) : bN Tryz.prog 45 [.rowE (bZ l) 3] [] (.sl 0 0 l.length 3) [.arr (bZ l) 3] := by
  have hll : (bZ l).length = l.length := gV l;refine dC T Tryz.func45 rfl rfl rfl rfl ?_
  repeat' (first|refine wS ?_|refine wK ?_|refine wT ?_|refine wU ?_|(refine rg 0 (aV ?_))|(refine rg 1 (mV ?_);refine wO T rfl rfl rfl rfl fun b hb=>?_;cases b)|refine nZ ?_)
  · (repeat' (first|refine wR ?_|(refine rg 3 (cY (by exact cF T rfl rfl (by decide) (by decide) rfl rfl rfl) rfl ?_);refine mW rfl (hY T rfl rfl rfl rfl rfl rfl (by decide) (.row (vG l)) (RX l) (by simp;omega) (by simp;omega) rfl ?_);refine aV ?_)|(refine nZ ?_)));exact ⟨.inl rfl,[1],_,rfl,(by show AV.sl 1 0 (0 + (bZ l).length) 3 = AV.sl 1 0 l.length 3;simp),rfl,⟨.inr (cM rfl rfl (vH _)),trivial⟩,by decide,nP _⟩
  · have hl0 : l = [] := jA.1 (Classical.byContradiction fun h => by have := hb (by omega);cases this)
    subst hl0
    (repeat' (first|refine wR ?_|(refine rg 2 (vV (jG rfl) (E3 2 3 rfl (by decide) ?_)))|refine nZ ?_));exact ⟨.inl rfl,[0],_,rfl,rfl,rfl,⟨.inr (cM rfl rfl (vH _)),trivial⟩,by decide,nP _⟩
theorem IE (l : List Tk) (hl : l.length ≤ 1000000) : bN Tryz.prog 97 [.rowE (eO l) 2] [] (.sl 0 0 l.length 2) [.arr (eO l) 2] := by
  have hll : (eO l).length = l.length := oR l;refine dC T Tryz.func97 rfl rfl rfl rfl ?_
  repeat' (first|refine wS ?_|refine wK ?_|refine wT ?_|refine wU ?_|(refine rg 0 (aV ?_))|(refine rg 1 (mV ?_);refine wO T rfl rfl rfl rfl fun b hb=>?_;cases b)|refine nZ ?_)
  · (repeat' (first|refine wR ?_|(refine rg 3 (cY (by exact cF T rfl rfl (by decide) (by decide) rfl rfl rfl) rfl ?_);refine mW rfl (hY T rfl rfl rfl rfl rfl rfl (by decide) (.row (vJ l)) (SA l) (by simp;omega) (by simp;omega) rfl ?_);refine aV ?_)|(refine nZ ?_)));exact ⟨.inl rfl,[1],_,rfl,(by show AV.sl 1 0 (0 + (eO l).length) 2 = AV.sl 1 0 l.length 2;simp),rfl,⟨.inr (cM rfl rfl (nX _)),trivial⟩,by decide,nP _⟩
  · have hl0 : l = [] := jA.1 (Classical.byContradiction fun h => by have := hb (by omega);cases this)
    subst hl0
    (repeat' (first|refine wR ?_|(refine rg 2 (vV (jG rfl) (E3 2 2 rfl (by decide) ?_)))|refine nZ ?_));exact ⟨.inl rfl,[0],_,rfl,rfl,rfl,⟨.inr (cM rfl rfl (nX _)),trivial⟩,by decide,nP _⟩
theorem IF (l : List Bo) (hl : l.length ≤ 1000000) : bN Tryz.prog 49 [.rowE (eR l) 3] [] (.sl 0 0 l.length 3) [.arr (eR l) 3] := by
  have hll : (eR l).length = l.length := gX l;refine dC T Tryz.func49 rfl rfl rfl rfl ?_
  repeat' (first|refine wS ?_|refine wK ?_|refine wT ?_|refine wU ?_|(refine rg 0 (aV ?_))|(refine rg 1 (mV ?_);refine wO T rfl rfl rfl rfl fun b hb=>?_;cases b)|refine nZ ?_)
  · (repeat' (first|refine wR ?_|(refine rg 3 (cY (by exact cF T rfl rfl (by decide) (by decide) rfl rfl rfl) rfl ?_);refine mW rfl (hY T rfl rfl rfl rfl rfl rfl (by decide) (.row (lB l)) (ES l) (by simp;omega) (by simp;omega) rfl ?_);refine aV ?_)|(refine nZ ?_)));exact ⟨.inl rfl,[1],_,rfl,(by show AV.sl 1 0 (0 + (eR l).length) 3 = AV.sl 1 0 l.length 3;simp),rfl,⟨.inr (cM rfl rfl (wA _)),trivial⟩,by decide,nP _⟩
  · have hl0 : l = [] := jA.1 (Classical.byContradiction fun h => by have := hb (by omega);cases this)
    subst hl0
    (repeat' (first|refine wR ?_|(refine rg 2 (vV (jG rfl) (E3 2 3 rfl (by decide) ?_)))|refine nZ ?_));exact ⟨.inl rfl,[0],_,rfl,rfl,rfl,⟨.inr (cM rfl rfl (wA _)),trivial⟩,by decide,nP _⟩
def K9 : List Int → Int → Int → Int
  | [],_,_ => -1
  | x :: r,v,k => if v = x then k else K9 r v (k + 1)
theorem BF : ∀ (l : List Int) (v k : Int), 0 ≤ k → (0 ≤ K9 l v k ↔ v ∈ l)
  | [],v,k,_ => by simp [K9]
  | x :: r,v,k,hk => by
    simp only [K9];split
    · rename_i e;subst e;simp [hk]
    · rename_i e;rw [BF r v (k + 1) (by omega)]
      simp [e]
theorem HT {l : List Int} {v : Int} {k : Nat} (h : k < l.length) : K9 (l.drop k) v k = if v = l[k] then (k : Int) else K9 (l.drop (k + 1)) v ((k + 1 : Nat) : Int) := by
  rw [aS h];simp [K9]
theorem LV (l : List Int) (v : Int) (hl : l.length ≤ 1000000) : bN Tryz.prog 121 [.rowE (fT l) 1,.i v] [] (.i (K9 l v 0)) [] := by
  have hlen : (fT l).length = l.length := by simp
  refine dC T Tryz.func121 rfl rfl rfl rfl ?_
  (repeat' (first|refine wS ?_|refine wB ?_|(refine rg 0 (aV ?_))|(refine rg 1 (mW rfl (qW T rfl (mV ?_))))|refine nZ ?_));refine eX (X := {k : Nat // k ≤ l.length ∧ K9 l v 0 = K9 (l.drop k) v k}) (fun k => [(0,.rowE (fT l) 1),(1,.i v),(7,.i (fT l).length),(8,.i k.1)]) (fun _ => []) (fun k => l.length - k.1) ⟨0,by simp,rfl⟩ (rL []) ?_
  rintro ⟨k,hk,hf⟩;dsimp only;by_cases hlt : k < l.length
  · have hd := HT (v := v) hlt;have hg := DT (l := l) hlt
    repeat' (first|refine wS ?_|refine wB ?_|refine wK ?_|refine wR ?_|(refine wC rfl ?_ ?_<;>(intro hb;(try simp only [nm] at hb);try (exfalso;omega)))|(refine rg 2 (vV (bA rfl rfl) ?_))|(refine rg 3 (mW rfl (aV ?_)))|(refine rg 4 (fF rfl (mW rfl (vV (ix T rfl (by omega) (DS l) hg) (lW T rfl (vV (cT rfl rfl) ?_))))))|(refine rg 5 (mW rfl (aV ?_)))|(refine rg 6 (vV (dS rfl rfl (by omega) (by omega)) (mV ?_)))|refine nZ ?_)
    · refine dZ (.inl rfl) rfl ?_;rw [hf,hd,if_pos hb];rfl
    · refine ⟨⟨k + 1,by omega,?_⟩,by dsimp only;omega,rL []⟩
      rw [hf,hd,if_neg hb]
  · (repeat' (first|refine wS ?_|refine wR ?_|refine wE ?_|(refine wC rfl (fun hb => ?_) (fun hb => ?_) <;> (((try simp only [nm] at hb);try (exfalso;omega))))|(refine rg 2 (vV (bA rfl rfl) ?_))|(refine rg 7 (aV ?_))|(refine nZ ?_)));refine dZ (.inl rfl) rfl ?_
    rw [hf,dJ (by omega)];rfl
theorem BX (l : List Int) (v : Int) (hl : l.length ≤ 1000000) : bN Tryz.prog 105 [.rowE (fT l) 1,.i v] [] (.b (decide (v ∈ l))) [] := by
  refine dC T Tryz.func105 rfl rfl rfl rfl ?_
  (repeat' (first|refine wS ?_|refine wR ?_|(refine rg 0 (aV ?_))|(refine rg 1 (fF rfl (vV (kC (LV l v hl)) (vV (eV rfl rfl) (aV ?_)))))|refine nZ ?_));refine dZ (.inl rfl) rfl (wD ?_)
  rw [S4];simp only [decide_eq_true_eq];exact BF l v 0 (by omega)
theorem UC (w : Wt) : bN Tryz.prog 98 [.agg [.i w.1,.i w.2.1,.i w.2.2]] [] (.b (sA w)) [] := by
  refine dC T Tryz.func98 rfl rfl rfl rfl ?_
  (repeat' (first|refine wS ?_|refine wR ?_|(refine rg 0 (cY (fG rfl rfl) rfl (aV ?_)))|(refine rg 1 (jH T rfl (vV (bA rfl rfl) (mV ?_)));refine bL rfl rfl ?_ ?_<;>(intro hb;rw [hb];(try simp only [nm] at hb);try (exfalso;omega));(all_goals first|(refine gT (fW T rfl (gT (lW T rfl (gT (vV (bA rfl rfl) ?_))))))|(iterate 3 refine gF ?_));(all_goals (refine pW rfl (mV ?_)));(all_goals first|(refine gK ?_)|(refine bL rfl rfl ?_ ?_<;>(intro hb;rw [hb];(try simp only [nm] at hb);try (exfalso;omega))));(all_goals first|(refine gT (fW T rfl (gT (lW T rfl (gT (vV (gJ rfl rfl) ?_))))))|(iterate 3 refine gF ?_));(all_goals (refine pW rfl (mV ?_)));(all_goals first|(refine gK ?_)|(refine bL rfl rfl ?_ ?_<;>(intro hb;rw [hb];(try simp only [nm] at hb);try (exfalso;omega))));(all_goals first|(refine gT (fW T rfl (gT (lW T rfl (gT (vV (bA rfl rfl) ?_))))))|(iterate 3 refine gF ?_));(all_goals (refine pW rfl (mV ?_)));(all_goals first|(refine gK ?_)|(refine bL rfl rfl ?_ ?_<;>(intro hb;rw [hb];(try simp only [nm] at hb);try (exfalso;omega))));(all_goals first|(refine gT (fW T rfl (gT (lW T rfl (gT (vV (gJ rfl rfl) ?_))))))|(iterate 3 refine gF ?_));(all_goals (refine pW rfl (aV ?_))))|refine nZ ?_));all_goals first | (exfalso;omega) | exact dZ (.inl rfl) rfl (wD (by unfold sA;first | rfl | (rw [S4];simp only [nE,decide_eq_true_eq,true_iff];omega) | (rw [S4];simp;omega)))
theorem N2 (ws : List Wt) (due : Int) (hl : ws.length ≤ 1000000) : bN Tryz.prog 48 [.rowE (bZ ws) 3,.i due] [] (.b (kL ws due)) [] := by
  have hc := FS (l := ws) (F := 98) (caps := []) (p := sA) hl rfl fun x _ => UC x
  have hll := gV ws;unfold kL;generalize ws.any sA = q at *;by_cases h1 : ws.length < 1
  · (rw [show (!(decide (ws.length < 1) || (decide (20 < ws.length) || (decide (due < 0) || decide (20000 < due)))) && !q) = false by simp [*]]
     refine dC T Tryz.func48 rfl rfl rfl rfl ?_
     (repeat' (first|refine wS ?_|refine wR ?_|refine wT ?_|(refine rg 0 (aV ?_))|(refine rg 1 (mW rfl (qW T rfl (vV (bA rfl rfl) (mV ?_))));refine bL rfl rfl ?_ ?_<;>(intro hb;rw [hb];(try simp only [nm] at hb);try (exfalso;omega));(all_goals ((iterate 3 refine gF ?_);refine pW rfl (mV ?_);(iterate 2 refine gF ?_);refine pW rfl (mV ?_);(iterate 2 refine gF ?_);refine pV ?_)))|(refine rg 2 (aV ?_))|refine nZ ?_));all_goals first | (exfalso;omega) | exact rQ)
  by_cases h2 : 20 < ws.length
  · (rw [show (!(decide (ws.length < 1) || (decide (20 < ws.length) || (decide (due < 0) || decide (20000 < due)))) && !q) = false by simp [*]]
     refine dC T Tryz.func48 rfl rfl rfl rfl ?_
     (repeat' (first|refine wS ?_|refine wR ?_|refine wT ?_|(refine rg 0 (aV ?_))|(refine rg 1 (mW rfl (qW T rfl (vV (bA rfl rfl) (mV ?_))));refine bL rfl rfl ?_ ?_<;>(intro hb;rw [hb];(try simp only [nm] at hb);try (exfalso;omega));(all_goals (refine yN rfl (gT (qW T rfl (yV (gJ rfl rfl) (pW rfl (mV ?_)))));refine bL rfl rfl ?_ ?_<;>(intro hb;rw [hb];(try simp only [nm] at hb);try (exfalso;omega))));(all_goals ((iterate 2 refine gF ?_);refine pW rfl (mV ?_);(iterate 2 refine gF ?_);refine pV ?_)))|(refine rg 2 (aV ?_))|refine nZ ?_));all_goals first | (exfalso;omega) | exact rQ)
  by_cases h3 : due < 0
  · (rw [show (!(decide (ws.length < 1) || (decide (20 < ws.length) || (decide (due < 0) || decide (20000 < due)))) && !q) = false by simp [*]]
     refine dC T Tryz.func48 rfl rfl rfl rfl ?_
     (repeat' (first|refine wS ?_|refine wR ?_|refine wT ?_|(refine rg 0 (aV ?_))|(refine rg 1 (mW rfl (qW T rfl (vV (bA rfl rfl) (mV ?_))));refine bL rfl rfl ?_ ?_<;>(intro hb;rw [hb];(try simp only [nm] at hb);try (exfalso;omega));(all_goals (refine yN rfl (gT (qW T rfl (yV (gJ rfl rfl) (pW rfl (mV ?_)))));refine bL rfl rfl ?_ ?_<;>(intro hb;rw [hb];(try simp only [nm] at hb);try (exfalso;omega))));(all_goals (refine yN rfl (yV (bA rfl rfl) (pW rfl (mV ?_)));refine bL rfl rfl ?_ ?_<;>(intro hb;rw [hb];(try simp only [nm] at hb);try (exfalso;omega))));(all_goals ((iterate 2 refine gF ?_);refine pV ?_)))|(refine rg 2 (aV ?_))|refine nZ ?_));all_goals first | (exfalso;omega) | exact rQ)
  by_cases h4 : 20000 < due
  · (rw [show (!(decide (ws.length < 1) || (decide (20 < ws.length) || (decide (due < 0) || decide (20000 < due)))) && !q) = false by simp [*]]
     refine dC T Tryz.func48 rfl rfl rfl rfl ?_
     (repeat' (first|refine wS ?_|refine wR ?_|(refine wC rfl ?_ ?_<;>(intro hb;(try simp only [nm] at hb);try (exfalso;omega)))|(refine rg 0 (aV ?_))|(refine rg 1 (mW rfl (qW T rfl (vV (bA rfl rfl) (mV ?_))));refine bL rfl rfl ?_ ?_<;>(intro hb;rw [hb];(try simp only [nm] at hb);try (exfalso;omega));(all_goals (refine yN rfl (gT (qW T rfl (yV (gJ rfl rfl) (pW rfl (mV ?_)))));refine bL rfl rfl ?_ ?_<;>(intro hb;rw [hb];(try simp only [nm] at hb);try (exfalso;omega))));(all_goals (refine yN rfl (yV (bA rfl rfl) (pW rfl (mV ?_)));refine bL rfl rfl ?_ ?_<;>(intro hb;rw [hb];(try simp only [nm] at hb);try (exfalso;omega))));(all_goals (refine yN rfl (yV (gJ rfl rfl) (pV ?_)))))|(refine rg 2 (aV ?_))|refine nZ ?_));all_goals first | (exfalso;omega) | exact rQ)
  rw [show (!(decide (ws.length < 1) || (decide (20 < ws.length) || (decide (due < 0) || decide (20000 < due)))) && !q) = !q by simp [h1,h2,h3,h4]]
  refine dC T Tryz.func48 rfl rfl rfl rfl ?_
  (repeat' (first|refine wS ?_|refine wK ?_|refine wR ?_|(refine wC rfl ?_ ?_<;>(intro hb;(try simp only [nm] at hb);try (exfalso;omega)))|(refine rg 0 (aV ?_))|(refine rg 1 (mW rfl (qW T rfl (vV (bA rfl rfl) (mV ?_))));refine bL rfl rfl ?_ ?_<;>(intro hb;rw [hb];(try simp only [nm] at hb);try (exfalso;omega));(all_goals (refine yN rfl (gT (qW T rfl (yV (gJ rfl rfl) (pW rfl (mV ?_)))));refine bL rfl rfl ?_ ?_<;>(intro hb;rw [hb];(try simp only [nm] at hb);try (exfalso;omega))));(all_goals (refine yN rfl (yV (bA rfl rfl) (pW rfl (mV ?_)));refine bL rfl rfl ?_ ?_<;>(intro hb;rw [hb];(try simp only [nm] at hb);try (exfalso;omega))));(all_goals (refine yN rfl (yV (gJ rfl rfl) (pV ?_)))))|(refine rg 3 (mW rfl (vV (kC (hc)) (vV (eI rfl) (aV ?_)))))|refine nZ ?_));all_goals first | (exfalso;omega) | exact rQ
end Go.Proofs.YtdiogjgohbbllaaGreatDoor
namespace Go.Or
open Go Go.Ab
theorem G8 {k : Int → Int} {x : Int} : ∀ {S1 S2 : List Int}, (∀ y, y ∈ S1 → k y ≤ k x) → (∀ y, y ∈ S2 → k x < k y) → sW k x (S1 ++ S2) = S1 ++ x :: S2
  | [],[],_,_ => rfl
  | [],y :: S2,_,h => by
    simp only [List.nil_append,sW];rw [if_pos (h y aN)]
  | z :: S1,S2,h1,h2 => by
    simp only [List.cons_append,sW];rw [if_neg (by have := h1 z aN;omega),G8 (fun y hy => h1 y (aE _ hy)) h2]
abbrev WI (k : Int → Int) (l : List Int) : Prop := l.Pairwise fun a b => k a ≤ k b
theorem FQ {k : Int → Int} {x : Int} : ∀ {l : List Int}, WI k l → WI k (sW k x l)
  | [],_ => by simp [sW]
  | y :: l,h => by
    have h1 := IU.1 h;unfold sW;split
    · rename_i hlt;refine IU.2 ⟨fun z hz => ?_,h⟩
      rcases aR.1 hz with rfl | hz
      · omega
      · have := h1.1 z hz;omega
    · rename_i hlt;refine IU.2 ⟨fun z hz => ?_,FQ h1.2⟩
      rcases G9.1 hz with rfl | hz
      · omega
      · exact h1.1 z hz
theorem BQ {k : Int → Int} : ∀ {l a : List Int}, WI k a → WI k (l.foldl (fun a x => sW k x a) a)
  | [],a,h => h
  | x :: l,a,h => by rw [R8];exact BQ (FQ h)
theorem JV (k : Int → Int) (l : List Int) : WI k (kK k l) := BQ List.Pairwise.nil
theorem DF (k : Int → Int) (l : List Int) (x : Int) : kK k (l ++ [x]) = sW k x (kK k l) := by unfold kK;rw [List.foldl_append];rfl
theorem DU {α : Type} (A B : List α) (x : α) {n : Nat} (h : n = A.length) : (A ++ x :: B)[n]? = some x := by subst h;simp
theorem FN {α : Type} (A B : List α) (x y : α) {n : Nat} (h : n = A.length) : (A ++ x :: B).set n y = A ++ y :: B := by subst h;simp
structure RU (k : Int → Int) (l : List Int) (i : Nat) (x : Int) (q : List Int × List Int) : Prop where
  eq : q.1 ++ q.2 = kK k (l.take i)
  gt : ∀ y,y ∈ q.2 → k x < k y
def sV (l : List Int) (i : Nat) (x : Int) (q : List Int × List Int) : List Int := q.1 ++ x :: (q.2 ++ l.drop (i + 1))
def S9 (k : Int → Int) (l : List Int) (i : Nat) : List Int := kK k (l.take i) ++ l.drop i
theorem HN {k : Int → Int} {l : List Int} {i : Nat} {x : Int} (h : i < l.length) (hx : l[i]? = some x) : RU k l i x (kK k (l.take i),[]) ∧ S9 k l i = sV l i x (kK k (l.take i),[]) := by
  refine ⟨⟨by simp,fun y hy => by cases hy⟩,?_⟩
  unfold S9 sV;rw [aS h,(aA.1 hx).2];simp
theorem FO {k : Int → Int} {l : List Int} {i : Nat} {x : Int} {q : List Int × List Int} (h : RU k l i x q) (hi : i < l.length) : q.1.length + q.2.length = i := by
  have := congrArg List.length h.eq;rw [aC,qR,bU] at this;omega
theorem LJ {k : Int → Int} {l : List Int} {i : Nat} {x : Int} {q : List Int × List Int} (h : RU k l i x q) (hi : i < l.length) : (sV l i x q).length = l.length := by
  have := FO h hi;unfold sV;simp only [aC,List.length_cons,fP];omega
theorem LG {k : Int → Int} {l : List Int} {i : Nat} {x : Int} {q : List Int × List Int} (h : RU k l i x q) (hi : i < l.length) (hx : l[i]? = some x) (hs : ∀ y,y ∈ q.1 → k y ≤ k x) : sV l i x q = S9 k l (i + 1) := by
  unfold sV S9;rw [aY hi,(aA.1 hx).2,DF,← h.eq,G8 hs h.gt];simp
theorem PP {k : Int → Int} {l : List Int} {i : Nat} {x y : Int} {S : List Int} {q : List Int × List Int} (h : RU k l i x q) (e : q.1 = S ++ [y]) (hc : ¬ k x < k y) : ∀ z,z ∈ q.1 → k z ≤ k x := by
  have hu := JV k (l.take i);rw [← h.eq,e] at hu;have h1 := (List.pairwise_append.1 hu).1;have h2 := (List.pairwise_append.1 h1).2.2;intro z hz;rw [e] at hz;rcases bD.1 hz with hz | hz
  · have := h2 z hz y (by simp);omega
  · rw [bG.1 hz];omega
theorem LH {k : Int → Int} {l : List Int} {i : Nat} {x y : Int} {S : List Int} {q : List Int × List Int} (h : RU k l i x q) (e : q.1 = S ++ [y]) (hc : k x < k y) : RU k l i x (S,y :: q.2) := by
  refine ⟨?_,fun z hz => ?_⟩
  · rw [← h.eq,e];simp
  · rcases aR.1 hz with rfl | hz
    · exact hc
    · exact h.gt z hz
def CA (x y : Int) : Int := if x < y then -1 else if y < x then 1 else 0
theorem MR {x y : Int} : CA x y < 0 ↔ x < y := by unfold CA;split <;> (try split) <;> omega
theorem KY {L : List Int} {j : Int} {i : Nat} {x : Int} (h : L[i]? = some x) (e : j = i) : (fT L)[0 + j.toNat]? = some [AV.i x] := by
  subst e;rw [Nat.zero_add,bK,aO,h];rfl
theorem KX {L : List Int} {j : Int} {i : Nat} {x : Int} (e : j = i) : (fT L).set (0 + j.toNat) [AV.i x] = fT (L.set i x) := by
  subst e;rw [Nat.zero_add,bK];show _ = List.map (fun n : Int => [AV.i n]) (L.set i x);rw [oF]
end Go.Or
namespace Go.Proofs.YtdiogjgohbbllaaGreatDoor
open Go Go.Ab Go.Or
attribute [local irreducible] VC AW bR bN
set_option maxHeartbeats 4000000
theorem wL : ∀ i : Nat,i < 1 → ([0] : List Nat)[i]? = some i := by decide
theorem zE (x : Int) : bN Tryz.prog 120 [.i x] [] (.b false) [] := by
  refine dC T Tryz.func120 rfl rfl rfl rfl ?_
  (repeat' (first|refine wS ?_|refine wR ?_|(refine rg 0 (aV ?_))|(refine rg 1 (fF rfl (vV (pH rfl rfl) (aV ?_))))|refine nZ ?_));all_goals first | (exfalso;omega) | exact dZ (.inl rfl) rfl (wD (by simp))
theorem TU (x y : Int) : bN Tryz.prog 104 [.i x,.i y] [] (.i (CA x y)) [] := by
  by_cases h1 : x < y
  · rw [show CA x y = -1 by unfold CA;rw [if_pos h1]]
    refine dC T Tryz.func104 rfl rfl rfl rfl ?_
    (repeat' (first|refine wS ?_|refine wK ?_|refine wR ?_|refine wU ?_|(refine wC rfl ?_ ?_<;>(intro hb;(try simp only [nm] at hb);try (exfalso;omega)))|(refine rg 0 (aV ?_))|(refine rg 1 (mW rfl (vV (kC (zE x)) (aV ?_))))|(refine rg 2 (mW rfl (vV (kC (zE y)) (aV ?_))))|(refine rg 3 (mV ?_))|(refine rg 7 (mV ?_))|(refine rg 9 (fF rfl (vV (bA rfl rfl) ?_)))|(refine rg 10 (aV ?_))|refine nZ ?_));all_goals first | (exfalso;omega) | exact rQ
  · by_cases h2 : y < x
    · rw [show CA x y = 1 by unfold CA;rw [if_neg h1,if_pos h2]]
      refine dC T Tryz.func104 rfl rfl rfl rfl ?_
      (repeat' (first|refine wS ?_|refine wK ?_|refine wR ?_|refine wU ?_|(refine wC rfl ?_ ?_<;>(intro hb;(try simp only [nm] at hb);try (exfalso;omega)))|(refine rg 0 (aV ?_))|(refine rg 1 (mW rfl (vV (kC (zE x)) (aV ?_))))|(refine rg 2 (mW rfl (vV (kC (zE y)) (aV ?_))))|(refine rg 3 (mV ?_))|(refine rg 7 (mV ?_))|(refine rg 9 (fF rfl (vV (bA rfl rfl) ?_)))|(refine rg 11 (fF rfl (vV (gJ rfl rfl) ?_)))|(refine rg 12 (aV ?_))|refine nZ ?_));all_goals first | (exfalso;omega) | exact rQ
    · rw [show CA x y = 0 by unfold CA;rw [if_neg h1,if_neg h2]]
      refine dC T Tryz.func104 rfl rfl rfl rfl ?_
      (repeat' (first|refine wS ?_|refine wK ?_|refine wR ?_|refine wU ?_|(refine wC rfl ?_ ?_<;>(intro hb;(try simp only [nm] at hb);try (exfalso;omega)))|(refine rg 0 (aV ?_))|(refine rg 1 (mW rfl (vV (kC (zE x)) (aV ?_))))|(refine rg 2 (mW rfl (vV (kC (zE y)) (aV ?_))))|(refine rg 3 (mV ?_))|(refine rg 7 (mV ?_))|(refine rg 9 (fF rfl (vV (bA rfl rfl) ?_)))|(refine rg 11 (fF rfl (vV (gJ rfl rfl) ?_)))|(refine rg 13 (aV ?_))|refine nZ ?_));all_goals first | (exfalso;omega) | exact rQ
theorem Q0 {F : FuncId} {caps : List AV} (l : List Int) (hl : l.length ≤ 100000) (hc : AV.idfL caps = true) :
    bN Tryz.prog 131 [.sl 0 0 l.length 1,.i l.length,.i l.length,.clo (.func F) [] caps] [.arr (fT l) 1] (.tup []) [.arr (fT l) 1] := by
  refine dC T Tryz.func131 rfl rfl rfl rfl ?_
  (repeat' (first|refine wS ?_|refine wB ?_|(refine iA 0 rfl rfl rfl (by omega) (by omega) ?_)|refine nZ ?_));refine eX (X := Unit) (fun _ => [(0,.sl 0 0 l.length 1),(1,.i l.length),(2,.i l.length),(8,.i ((l.length : Int) + 1))]) (fun _ => [.arr (fT l) 1]) (fun _ => 0) () ⟨[0],rfl,by (repeat (first | exact trivial | refine ⟨rfl,?_⟩)),⟨.inr (cM rfl rfl (eM _)),trivial⟩,by decide,wL⟩ ?_
  intro _;dsimp only
  (repeat' (first|refine wS ?_|refine wE ?_|(refine wC rfl ?_ ?_<;>(intro hb;(try simp only [nm] at hb);try (exfalso;omega)))|(refine rg 1 (fF rfl (vV (bA rfl rfl) ?_)))|refine nZ ?_));all_goals first | (exfalso;omega) | exact ⟨.inl rfl,[0],_,rfl,rfl,rfl,⟨.inr (cM rfl rfl (eM _)),trivial⟩,by decide,wL⟩ | exact ⟨.inr rfl,[0],_,rfl,rfl,rfl,⟨.inr (cM rfl rfl (eM _)),trivial⟩,by decide,wL⟩
theorem TE {F : FuncId} {caps : List AV} {key : Int → Int} (l : List Int) (hl : l.length ≤ 100000) (hn : 0 < l.length) (hi : AV.idfL caps = true)
    (hF : ∀ x y,x ∈ l → y ∈ l → bN Tryz.prog F (.i x :: .i y :: caps) [] (.i (CA (key x) (key y))) []) :
    bN Tryz.prog 131 [.sl 0 0 l.length 1,.i 0,.i l.length,.clo (.func F) [] caps] [.arr (fT l) 1] (.tup []) [.arr (fT (kK key l)) 1] := by
  refine dC T Tryz.func131 rfl rfl rfl rfl ?_
  (repeat' (first|refine wS ?_|refine wB ?_|(refine iA 0 rfl rfl rfl (by omega) (by omega) ?_)|refine nZ ?_));have h1e : S9 key l 1 = l := by
    unfold S9;obtain ⟨a,r,rfl⟩ : ∃ a r,l = a :: r := by
      cases l with
      | nil => simp at hn
      | cons a r => exact ⟨a,r,rfl⟩
    simp [kK,sW]
  refine eX (X := {i : Nat // 1 ≤ i ∧ i ≤ l.length}) (fun i => [(0,.sl 0 0 l.length 1),(1,.i 0),(2,.i l.length),(3,.clo (.func F) [] caps),(8,.i i.1)]) (fun i => [.arr (fT (S9 key l i.1)) 1]) (fun i => l.length - i.1) ⟨1,by omega,by omega⟩ ⟨[0],rfl,⟨rfl,rfl,rfl,by rw [fU hi];rfl,rfl,trivial⟩,⟨.inr (cM rfl (by dsimp only;rw [h1e]) (eM _)),trivial⟩,by decide,wL⟩ ?_
  rintro ⟨i,h1,h2⟩;dsimp only;by_cases hil : i < l.length
  · (repeat' (first|refine wS ?_|refine wB ?_|refine wK ?_|(refine wC rfl (fun hb => ?_) (fun hb => ?_) <;> (((try simp only [nm] at hb);try (exfalso;omega))))|(refine rg 1 (fF rfl (vV (bA rfl rfl) ?_)))|(refine rg 3 (mW rfl (aV ?_)))|(refine nZ ?_)));all_goals try (exfalso;omega)
    obtain ⟨x,hx⟩ : ∃ x,l[i]? = some x := ⟨_,aB hil⟩;have hxl := aH hx;obtain ⟨s1,s2⟩ := HN (k := key) hil hx;refine eX (X := {q : List Int × List Int // RU key l i x q}) (fun q => [(0,.sl 0 0 l.length 1),(1,.i 0),(2,.i l.length),(3,.clo (.func F) [] caps),(8,.i i),(9,.i (q.1.1.length : Int))]) (fun q => [.arr (fT (sV l i x q.1)) 1]) (fun q => q.1.1.length) ⟨_,s1⟩ ⟨[0],rfl,⟨rfl,rfl,rfl,by rw [fU hi];rfl,rfl,by dsimp only;rw [qR,bU,R7 (by omega)];rfl,trivial⟩,⟨.inr (cM rfl (by dsimp only;rw [s2]) (eM _)),trivial⟩,by decide,wL⟩ ?_
    rintro ⟨⟨S1,S2⟩,hq⟩;dsimp only;have hln := FO hq hil;dsimp only at hln;have hlen := LJ hq hil;rcases List.eq_nil_or_concat S1 with rfl | ⟨S,y,rfl⟩
    · have ee := LG hq hil hx (fun y hy => by cases hy)
      generalize sV l i x ([],S2) = L at *
      (repeat' (first|refine wS ?_|refine wE ?_|refine wU ?_|(refine eZ (id := 4) 53 YR (rM 18 17) YS fK rfl (by decide +kernel) (dN rfl (dN rfl (dV rfl (gJ rfl rfl) (dN rfl (tG rfl (tG rfl (tG rfl (tG rfl (dG ?_)))))))));refine tG rfl (tG rfl (tG rfl (tG rfl (tG rfl (tG rfl (tG rfl (dV rfl (lZ rfl rfl) (dE ?_)))))))))|(refine iA 2 rfl rfl rfl (by omega) (by omega) ?_)|refine nZ ?_));all_goals first | (exfalso;omega) | exact ⟨⟨i + 1,by omega,by omega⟩,by dsimp only;omega,⟨[0],rfl,⟨rfl,rfl,rfl,by rw [fU hi];rfl,rfl,trivial⟩,⟨.inr (cM rfl (by dsimp only;rw [ee]) (eM _)),trivial⟩,by decide,wL⟩⟩
    · rw [List.concat_eq_append] at *;have hy : y ∈ l := by
        have h3 : y ∈ kK key (l.take i) := by rw [← hq.eq];simp
        exact gD (yR.1 h3)
      have hc := hF x y hxl hy;have hL : sV l i x (S ++ [y],S2) = S ++ y :: x :: (S2 ++ l.drop (i + 1)) := by unfold sV;simp
      have hJ : ((S ++ [y]).length : Int) = ((S.length + 1 : Nat) : Int) := by simp
      have q1 := KY (L := sV l i x (S ++ [y],S2)) (j := ((S ++ [y]).length : Int)) (i := S.length + 1) (x := x) (by rw [hL,show S ++ y :: x :: (S2 ++ l.drop (i + 1)) = (S ++ [y]) ++ x :: (S2 ++ l.drop (i + 1)) by simp];exact DU _ _ _ (by simp)) hJ
      have q2 := KY (L := sV l i x (S ++ [y],S2)) (j := ((S ++ [y]).length : Int) - 1) (i := S.length) (x := y) (by rw [hL];exact DU _ _ _ rfl) (by omega)
      by_cases h0 : key x < key y
      · have ee := LH hq rfl h0;have hz : CA (key x) (key y) < 0 := MR.2 h0;have t1 := KX (L := sV l i x (S ++ [y],S2)) (j := ((S ++ [y]).length : Int)) (i := S.length + 1) (x := y) hJ;have e1 : (sV l i x (S ++ [y],S2)).set (S.length + 1) y = S ++ y :: y :: (S2 ++ l.drop (i + 1)) := by
          rw [hL,show S ++ y :: x :: (S2 ++ l.drop (i + 1)) = (S ++ [y]) ++ x :: (S2 ++ l.drop (i + 1)) by simp,FN _ _ _ _ (by simp)];simp
        rw [e1] at t1;have q3 := KY (L := S ++ y :: y :: (S2 ++ l.drop (i + 1))) (j := ((S ++ [y]).length : Int) - 1) (i := S.length) (x := y) (DU _ _ _ rfl) (by omega)
        have t2 := KX (L := S ++ y :: y :: (S2 ++ l.drop (i + 1))) (j := ((S ++ [y]).length : Int) - 1) (i := S.length) (x := x) (by omega)
        rw [FN _ _ _ _ rfl,show S ++ x :: y :: (S2 ++ l.drop (i + 1)) = sV l i x (S,y :: S2) by unfold sV;simp,← t1] at t2
        rw [← t1] at q3;have hJ2 : ((S ++ [y]).length : Int) - 1 = (S.length : Int) := by omega
        have hJ3 : ((S ++ [y]).length : Int) < l.length := by omega
        have hJ4 : (0 : Int) < ((S ++ [y]).length : Int) := by omega
        clear hJ hL;generalize ((S ++ [y]).length : Int) = J at *;generalize CA (key x) (key y) = z at *;generalize sV l i x (S ++ [y],S2) = L at *
        (repeat' (first|refine wS ?_|refine wB ?_|refine wK ?_|(refine wC rfl ?_ ?_<;>(intro hb;(try simp only [nm] at hb);try (exfalso;omega)))|(refine eZ (id := 4) 53 YR (rM 18 17) YS fK rfl (by decide +kernel) (dN rfl (dN rfl (dV rfl (gJ rfl rfl) (dM ?_))));refine xP rfl rfl rfl rfl ?_ ?_<;>(intro hb;rw [hb];(try simp only [nm] at hb);try (exfalso;omega))<;>(refine tM ?_);(all_goals (refine tN rfl (tN rfl (dT rfl (by exact cI T rfl rfl rfl rfl rfl (by omega) (by omega)) ?_));refine dT rfl (by exact bC T rfl rfl (mN rfl q1) rfl) ?_;refine tN rfl (tN rfl (dT rfl (gN rfl rfl (by omega) (by omega)) (dT rfl (by exact cI T rfl rfl rfl rfl rfl (by omega) (by omega)) ?_)));refine dT rfl (by exact bC T rfl rfl (mN rfl q2) rfl) ?_;refine dT rfl (by exact cN rfl rfl hc rfl (by simp [AV.idfL,AV.idf,hi]) rfl) ?_;refine dT rfl (bA rfl rfl) (dV rfl (lY rfl rfl) (dE ?_)))))|(refine IK (id := 6) 53 [[],[],[],[],[3],[],[],[6],[5,6,7],rM 5 4,[],[],[10,11],[10,11,12],[0,1,5,6,7,8,9,10,11,12,13],[0,1,5,6,7,8,9,10,11,12,13,14]] (rM 37 15) [[],[37],[37,38],[37,38,39],[37,38,39],rM 37 5,rM 37 6,rM 37 6,rM 37 5,rM 37 5,rM 37 10,rM 37 11,rM 37 10,rM 37 10,[39,40,41],[39,40,41]] [(15,0)] fK rfl (by decide +kernel) (pI rfl rfl rfl rfl (by exact eQ rfl) ?_);refine pI rfl rfl rfl rfl (by exact eQ rfl) ?_;refine pI rfl rfl rfl rfl (by exact eQ rfl) ?_;refine pI rfl rfl rfl rfl (by exact eQ rfl) ?_;refine pI rfl rfl rfl rfl (by exact gN rfl rfl (by omega) (by omega)) ?_;refine pI rfl rfl rfl rfl (by exact eQ rfl) ?_;refine pI rfl rfl rfl rfl (by exact eQ rfl) ?_;refine pI rfl rfl rfl rfl (by exact gN rfl rfl (by omega) (by omega)) ?_;refine pI rfl rfl rfl rfl (by exact cI T rfl rfl rfl rfl rfl (by omega) (by omega)) ?_;refine pI rfl rfl rfl rfl (by exact bC T rfl rfl (mN rfl q2) rfl) ?_;refine pI rfl rfl rfl rfl (by exact eQ rfl) ?_;refine pI rfl rfl rfl rfl (by exact eQ rfl) ?_;refine pI rfl rfl rfl rfl (by exact cI T rfl rfl rfl rfl rfl (by omega) (by omega)) ?_;refine pI rfl rfl rfl rfl (by exact bC T rfl rfl (mN rfl q1) rfl) ?_;refine pI rfl rfl rfl rfl (by exact cI T rfl rfl rfl rfl rfl (by omega) (by omega)) ?_;refine TL rfl rfl rfl rfl (aU rfl) T rfl rfl rfl rfl rfl rfl (by decide) (OK rfl q1 rfl) ?_;refine QG rfl rfl rfl (by exact rfl) ?_;refine vV (by exact cI T rfl rfl rfl rfl rfl (by omega) (by omega)) ?_;refine bE T rfl rfl rfl rfl rfl rfl (by decide) (JH rfl q3 rfl) ?_)|(refine rg 5 (mW rfl (vV (gN rfl rfl (by omega) (by omega)) (aV ?_))))|refine nZ ?_));all_goals first | (exfalso;omega) | exact ⟨⟨_,ee⟩,by dsimp only;simp,⟨[0],rfl,⟨rfl,rfl,rfl,by rw [fU hi];rfl,rfl,by dsimp only;rw [← hJ2];try rfl,trivial⟩,⟨.inr (cM rfl (by dsimp only;rw [← t2];try rfl) (eM _)),trivial⟩,by decide,wL⟩⟩
      · have ee := LG hq hil hx (PP hq rfl h0);have hz : ¬ CA (key x) (key y) < 0 := fun e => h0 (MR.1 e);have hJ3 : ((S ++ [y]).length : Int) < l.length := by omega
        have hJ4 : (0 : Int) < ((S ++ [y]).length : Int) := by omega
        clear hJ hL;generalize ((S ++ [y]).length : Int) = J at *;generalize CA (key x) (key y) = z at *;generalize sV l i x (S ++ [y],S2) = L at *
        (repeat' (first|refine wS ?_|refine wE ?_|(refine wC rfl ?_ ?_<;>(intro hb;(try simp only [nm] at hb);try (exfalso;omega)))|(refine eZ (id := 4) 53 YR (rM 18 17) YS fK rfl (by decide +kernel) (dN rfl (dN rfl (dV rfl (gJ rfl rfl) (dM ?_))));refine xP rfl rfl rfl rfl ?_ ?_<;>(intro hb;rw [hb];(try simp only [nm] at hb);try (exfalso;omega))<;>(refine tM ?_);(all_goals (refine tN rfl (tN rfl (dT rfl (by exact cI T rfl rfl rfl rfl rfl (by omega) (by omega)) ?_));refine dT rfl (by exact bC T rfl rfl (mN rfl q1) rfl) ?_;refine tN rfl (tN rfl (dT rfl (gN rfl rfl (by omega) (by omega)) (dT rfl (by exact cI T rfl rfl rfl rfl rfl (by omega) (by omega)) ?_)));refine dT rfl (by exact bC T rfl rfl (mN rfl q2) rfl) ?_;refine dT rfl (by exact cN rfl rfl hc rfl (by simp [AV.idfL,AV.idf,hi]) rfl) ?_;refine dT rfl (bA rfl rfl) (dV rfl (lY rfl rfl) (dE ?_)))))|(refine iA 2 rfl rfl rfl (by omega) (by omega) ?_)|refine nZ ?_));all_goals first | (exfalso;omega) | exact ⟨⟨i + 1,by omega,by omega⟩,by dsimp only;omega,⟨[0],rfl,⟨rfl,rfl,rfl,by rw [fU hi];rfl,rfl,trivial⟩,⟨.inr (cM rfl (by dsimp only;rw [ee]) (eM _)),trivial⟩,by decide,wL⟩⟩
  · obtain rfl : i = l.length := by omega
    have ee : S9 key l l.length = kK key l := by unfold S9;simp
    (repeat' (first|refine wS ?_|refine wE ?_|(refine wC rfl ?_ ?_<;>(intro hb;(try simp only [nm] at hb);try (exfalso;omega)))|(refine rg 1 (fF rfl (vV (bA rfl rfl) ?_)))|refine nZ ?_));all_goals first | (exfalso;omega) | exact ⟨.inl rfl,[0],_,rfl,rfl,rfl,⟨.inr (cM rfl (by rw [ee]) (eM _)),trivial⟩,by decide,wL⟩ | exact ⟨.inr rfl,[0],_,rfl,rfl,rfl,⟨.inr (cM rfl (by rw [ee]) (eM _)),trivial⟩,by decide,wL⟩
end Go.Proofs.YtdiogjgohbbllaaGreatDoor
namespace Go.Or
open Go Go.Ab
theorem GX {ls : List Lo} {bs : List Bo} {w : Wt} {k : Nat} : vK ls bs w (k + 1) = if 0 < cnt bs k ∧ nC ls (bs.getD k (0,0,0)) w = true then vK ls bs w k ++ [(k : Int)] else vK ls bs w k := by
  unfold vK G2;rw [UO,cO,IW];by_cases h : 0 < cnt bs k ∧ nC ls (bs.getD k (0,0,0)) w = true
  · rw [if_pos h];have h2 : nC ls (bs[k]?.getD (0,0,0)) w = true := by simpa using h.2
    simp [h.1,h2]
  · rw [if_neg h];have : ¬ (0 < cnt bs k ∧ nC ls (bs[k]?.getD (0,0,0)) w = true) := by simpa using h
    simp only [List.map_cons,List.map_nil,J9,List.filter_nil,bK,aD,aM,decide_eq_true_eq,if_neg this,List.append_nil]
theorem V8 {bs : List Bo} {k : Nat} (h : k < bs.length) : (eR bs)[(k : Int).toNat]? = some [AV.i (bs.getD k (0,0,0)).1,AV.i (bs.getD k (0,0,0)).2.1,AV.i (bs.getD k (0,0,0)).2.2] := by
  rw [UA h,aD,aB h];rfl
theorem V7 {bs : List Bo} {j : Int} (h0 : 0 ≤ j) (h : j < bs.length) : (eR bs)[j.toNat]? = some [AV.i (bs.getD j.toNat (0,0,0)).1,AV.i (bs.getD j.toNat (0,0,0)).2.1,AV.i (bs.getD j.toNat (0,0,0)).2.2] := by
  have := V8 (bs := bs) (k := j.toNat) (by omega)
  rw [bK] at this;exact this
theorem U2 {ls : List Lo} {j : Int} (h0 : 0 ≤ j) (h : j < ls.length) : (jF ls)[j.toNat]? = some [AV.i (ls.getD j.toNat (0,0,false)).1,AV.i (ls.getD j.toNat (0,0,false)).2.1,AV.b (ls.getD j.toNat (0,0,false)).2.2] := by
  have := PS (l := ls) (k := j.toNat) (by omega)
  rw [this,aD,aB (by omega)];rfl
def Y3 (ls : List Lo) (bs : List Bo) : Prop := ∀ i : Nat,i < bs.length → -1 ≤ (bs.getD i (0,0,0)).1 ∧ (bs.getD i (0,0,0)).1 < ls.length
theorem KZ (l : List Int) (x : Int) : (List.take l.length (List.drop 0 (fT l))) ++ [[AV.i x]] = fT (l ++ [x]) := by
  rw [dI,aX (by simp)];simp
end Go.Or
namespace Go.Proofs.YtdiogjgohbbllaaGreatDoor
open Go Go.Ab Go.Or
attribute [local irreducible] VC AW bR bN
set_option maxHeartbeats 4000000
theorem FW (l : Lo) (w : Wt) : bN Tryz.prog 64 [.agg [.i l.1,.i l.2.1,.b l.2.2],.agg [.i w.1,.i w.2.1,.i w.2.2]] [] (.b (FX l w)) [] := by
  obtain ⟨k,e,f⟩ := l;obtain ⟨a,b,c⟩ := w;dsimp only;unfold FX;dsimp only;cases f
  all_goals
    refine dC T Tryz.func64 rfl rfl rfl rfl ?_
    (repeat' (first|refine wS ?_|refine wR ?_|(refine rg 0 (cY (fG rfl rfl) rfl (cY (fG rfl rfl) rfl (aV ?_))))|(refine rg 1 (jH T rfl (jH T rfl (vV (cT rfl rfl) (mV ?_))));refine bL rfl rfl ?_ ?_<;>(intro hb;rw [hb];(try simp only [nm] at hb);try (exfalso;omega));(all_goals first|(refine gT (fW T rfl (gT (lW T rfl (gT (vV (eI rfl) ?_))))))|(iterate 3 refine gF ?_));(all_goals (refine pW rfl (mV ?_)));(all_goals first|(refine gT (fW T rfl (gT (lW T rfl (gT (fW T rfl (gT (lW T rfl (gT (vV (eV rfl rfl) ?_))))))))))|(iterate 5 refine gF ?_));(all_goals (refine pW rfl (aV ?_))))|refine nZ ?_));all_goals first | (exfalso;omega) | exact dZ (.inl rfl) rfl (wD (by first | rfl | (simp;omega) | (simp [*];done)))
theorem QC (ls : List Lo) (b : Bo) (w : Wt) (hl : ls.length ≤ 1000000) (hb : b.1 < ls.length) : bN Tryz.prog 101 [.rowE (jF ls) 3,.agg [.i b.1,.i b.2.1,.i b.2.2],.agg [.i w.1,.i w.2.1,.i w.2.2]] [] (.b (nC ls b w)) [] := by
  obtain ⟨l,n,t⟩ := b;dsimp only at hb ⊢;have hll := oU ls;unfold nC;dsimp only;by_cases h0 : 0 ≤ l
  · rw [decide_eq_true h0,jM];have hg := U2 h0 hb;have hc := FW (ls.getD l.toNat (0,0,false)) w;generalize ls.getD l.toNat (0,0,false) = x at *;refine dC T Tryz.func101 rfl rfl rfl rfl ?_
    (repeat' (first|refine wS ?_|refine wR ?_|(refine rg 0 (cY (fG rfl rfl) rfl (cY (fG rfl rfl) rfl (aV ?_))))|(refine eZ (id := 1) 19 YT (rM 7 12) YU fK rfl (by decide +kernel) (dP T rfl (dO T rfl (dV rfl (eV rfl rfl) (dM ?_))));refine xP rfl rfl rfl rfl ?_ ?_<;>(intro hb;rw [hb];(try simp only [nm] at hb);try (exfalso;omega))<;>(refine tM ?_);(all_goals (refine tP T rfl (tO T rfl (dT rfl (ix T rfl (by omega) (tT ls) hg) (tO T rfl (tO T rfl (dT rfl (kC (hc)) (dV rfl (lY rfl rfl) (dE ?_)))))));refine aV ?_)))|refine nZ ?_));all_goals first | (exfalso;omega) | exact rQ
  · rw [decide_eq_false h0,iI];refine dC T Tryz.func101 rfl rfl rfl rfl ?_
    (repeat' (first|refine wS ?_|refine wR ?_|(refine rg 0 (cY (fG rfl rfl) rfl (cY (fG rfl rfl) rfl (aV ?_))))|(refine eZ (id := 1) 19 YT (rM 7 12) YU fK rfl (by decide +kernel) (dP T rfl (dO T rfl (dV rfl (eV rfl rfl) (dM ?_))));refine xP rfl rfl rfl rfl ?_ ?_<;>(intro hb;rw [hb];(try simp only [nm] at hb);try (exfalso;omega))<;>(refine dG ?_);(all_goals (refine tG rfl (tG rfl (tG rfl (tG rfl (tG rfl (tG rfl (dV rfl (lZ rfl rfl) (dE ?_)))))));refine aV ?_)))|refine nZ ?_));all_goals first | (exfalso;omega) | exact rQ
theorem TA (ls : List Lo) (bs : List Bo) (i k : Int) (hl : ls.length ≤ 1000000) (hbl : bs.length ≤ 1000000) (hi : 0 ≤ i ∧ i < bs.length) (hk : 0 ≤ k ∧ k < bs.length)
    (h1 : 0 ≤ (bs.getD i.toNat (0,0,0)).1 ∧ (bs.getD i.toNat (0,0,0)).1 < ls.length) (h2 : 0 ≤ (bs.getD k.toNat (0,0,0)).1 ∧ (bs.getD k.toNat (0,0,0)).1 < ls.length) :
    bN Tryz.prog 103 [.i i,.i k,.pr [.rowE (jF ls) 3] 0,.pr [.rowE (eR bs) 3] 0] [] (.i (CA (LL ls bs i) (LL ls bs k))) [] := by
  have hll := oU ls;have hbb := gX bs;have q1 := V7 hi.1 hi.2;have q2 := V7 hk.1 hk.2;unfold LL;generalize bs.getD i.toNat (0,0,0) = x at *;generalize bs.getD k.toNat (0,0,0) = y at *;have q3 := U2 h1.1 h1.2;have q4 := U2 h2.1 h2.2;generalize ls.getD x.1.toNat (0,0,false) = u at *;generalize ls.getD y.1.toNat (0,0,false) = v at *;have hc := TU u.2.1 v.2.1;refine dC T Tryz.func103 rfl rfl rfl rfl ?_
  (repeat' (first|refine wS ?_|refine wR ?_|(refine rg 0 (aV ?_))|(refine eZ (id := 1) 26 [[],[],[],[1,2],[1,2,3],rM 1 4,rN 6,rN 7,rN 8,[],[],[],[10,11],[10,11,12],rM 10 4,rM 9 6,rM 9 7,rM 9 8,rN 18] (rM 7 19) [[],[7],[7,8],[7],[7],[7],[],[],[],rM 7 9,rM 7 10,rM 7 11,rM 7 10,rM 7 10,rM 7 10,rM 7 9,rM 7 9,rM 7 9,[]] fK rfl (by decide +kernel) (dO T rfl (dO T rfl (dN rfl (dV rfl (ix T rfl (by omega) (lB bs) q1) (dP T rfl (dO T rfl (dV rfl (ix T rfl (by omega) (tT ls) q3) (dP T rfl (dL T ?_)))))))));refine dO T rfl (dO T rfl (dN rfl (dV rfl (ix T rfl (by omega) (lB bs) q2) (dP T rfl (dO T rfl (dV rfl (ix T rfl (by omega) (tT ls) q4) (dP T rfl (dO T rfl (dV rfl (kC (hc)) ?_)))))))));refine dE ?_;refine aV ?_)|refine nZ ?_));all_goals first | (exfalso;omega) | exact rQ
theorem GU {F : FuncId} {caps : List AV} {key : Int → Int} (l : List Int) (hl : l.length ≤ 20) (hi : AV.idfL caps = true)
    (hF : ∀ x y,x ∈ l → y ∈ l → bN Tryz.prog F (.i x :: .i y :: caps) [] (.i (CA (key x) (key y))) []) :
    bN Tryz.prog 119 [.sl 0 0 l.length 1,.i l.length,.clo (.func F) [] caps] [.arr (fT l) 1] (.tup []) [.arr (fT (kK key l)) 1] := by
  have hs : (kK key l).length = l.length := qR;by_cases h0 : l.length = 0
  · obtain rfl : l = [] := jA.1 h0;have c1 := Q0 (F := F) (caps := caps) [] (by decide) hi
    refine dC T Tryz.func119 rfl rfl rfl rfl ?_
    (repeat' (first|refine wS ?_|refine wB ?_|(refine rg 0 (aV ?_))|(refine rg 1 (mW rfl (oC ?_)))|refine nZ ?_));refine eX (X := Unit) (fun _ => [(0,.sl 0 0 0 1),(1,.i 0),(2,.clo (.func F) [] caps),(6,.i 20),(7,.i 0),(8,.i 20)]) (fun _ => [.arr (fT []) 1]) (fun _ => 0) () ⟨[0],rfl,⟨rfl,rfl,by rw [fU hi];rfl,rfl,rfl,rfl,trivial⟩,⟨.inr rfl,trivial⟩,by decide,wL⟩ ?_
    intro _;dsimp only
    (repeat' (first|refine wS ?_|refine wB ?_|refine wE ?_|refine wU ?_|(refine rg 2 (fF rfl (vV (iR rfl rfl) ?_)))|(refine rg 6 (fF rfl (fF rfl (cQ [0] rfl rfl c1 (by simp only [AV.mapL,fU hi];rfl) rfl (by decide) ⟨.inr rfl,trivial⟩ (by simp) rfl ?_))))|refine nZ ?_));all_goals try (exfalso;omega)
    refine eX (X := Unit) (fun _ => [(0,.sl 0 0 0 1),(1,.i 0),(6,.i 20)]) (fun _ => [.arr (fT []) 1]) (fun _ => 0) () ⟨[0],rfl,⟨rfl,rfl,rfl,trivial⟩,⟨.inr rfl,trivial⟩,by decide,wL⟩ ?_
    intro _;dsimp only
    (repeat' (first|refine wS ?_|refine wE ?_|refine wU ?_|(refine rg 7 (fF rfl (vV (bA rfl rfl) ?_)))|refine nZ ?_));all_goals first | (exfalso;omega) | exact ⟨.inl rfl,[0],_,rfl,rfl,rfl,⟨.inr rfl,trivial⟩,by decide,wL⟩ | exact ⟨.inr rfl,[0],_,rfl,rfl,rfl,⟨.inr rfl,trivial⟩,by decide,wL⟩
  have hn : 0 < l.length := by omega
  have c2 := TE (F := F) (caps := caps) (key := key) l (by omega) hn hi hF
  have c3 := Q0 (F := F) (caps := caps) (kK key l) (by omega) hi
  rw [hs] at c3;rcases fJ l.length 20 with hlt | hge
  · refine dC T Tryz.func119 rfl rfl rfl rfl ?_
    (repeat' (first|refine wS ?_|refine wB ?_|(refine rg 0 (aV ?_))|(refine rg 1 (mW rfl (oC ?_)))|refine nZ ?_));refine eX (X := Unit) (fun _ => [(0,.sl 0 0 l.length 1),(1,.i l.length),(2,.clo (.func F) [] caps),(6,.i 20),(7,.i 0),(8,.i 20)]) (fun _ => [.arr (fT l) 1]) (fun _ => 0) () ⟨[0],rfl,⟨rfl,rfl,by rw [fU hi];rfl,rfl,rfl,rfl,trivial⟩,⟨.inr (cM rfl rfl (eM _)),trivial⟩,by decide,wL⟩ ?_
    intro _;dsimp only
    (repeat' (first|refine wS ?_|refine wB ?_|refine wE ?_|(refine wC rfl ?_ ?_<;>(intro hb;(try simp only [nm] at hb);try (exfalso;omega)))|(refine rg 2 (fF rfl (vV (iR rfl rfl) ?_)))|(refine rg 6 (fF rfl (fF rfl (cQ [0] rfl rfl c2 (by simp only [AV.mapL,fU hi];rfl) rfl (by decide) ⟨.inr (cM rfl rfl (eM _)),trivial⟩ (by simp) rfl ?_))))|refine nZ ?_));all_goals try (exfalso;omega)
    refine eX (X := Unit) (fun _ => [(0,.sl 0 0 l.length 1),(1,.i l.length),(6,.i 20)]) (fun _ => [.arr (fT (kK key l)) 1]) (fun _ => 0) () ⟨[0],rfl,⟨rfl,rfl,rfl,trivial⟩,⟨.inr (cM rfl (gW _ (eM _)) (eM _)),trivial⟩,by decide,wL⟩ ?_
    intro _;dsimp only
    (repeat' (first|refine wS ?_|refine wE ?_|(refine wC rfl ?_ ?_<;>(intro hb;(try simp only [nm] at hb);try (exfalso;omega)))|(refine rg 7 (fF rfl (vV (bA rfl rfl) ?_)))|refine nZ ?_));all_goals first | (exfalso;omega) | exact ⟨.inl rfl,[0],_,rfl,rfl,rfl,⟨.inr (cM rfl rfl (eM _)),trivial⟩,by decide,wL⟩ | exact ⟨.inr rfl,[0],_,rfl,rfl,rfl,⟨.inr (cM rfl rfl (eM _)),trivial⟩,by decide,wL⟩
  · have h20 : l.length = 20 := by omega
    refine dC T Tryz.func119 rfl rfl rfl rfl ?_
    (repeat' (first|refine wS ?_|refine wB ?_|(refine rg 0 (aV ?_))|(refine rg 1 (mW rfl (oC ?_)))|refine nZ ?_));refine eX (X := Bool) (fun b => [(0,.sl 0 0 l.length 1),(1,.i l.length),(2,.clo (.func F) [] caps),(6,.i 20),(7,.i (cond b 20 0)),(8,.i (cond b 40 20))]) (fun b => [.arr (fT (cond b (kK key l) l)) 1]) (fun b => cond b 0 1) false ⟨[0],rfl,⟨rfl,rfl,by rw [fU hi];rfl,rfl,rfl,rfl,trivial⟩,⟨.inr (cM rfl rfl (eM _)),trivial⟩,by decide,wL⟩ ?_
    rw [h20] at c2 c3;rintro (_ | _)
    · dsimp only [cond]
      (repeat' (first|refine wS ?_|refine wB ?_|refine wK ?_|(refine wC rfl ?_ ?_<;>(intro hb;(try simp only [nm] at hb);try (exfalso;omega)))|(refine rg 2 (fF rfl (vV (iR rfl rfl) ?_)))|(refine rg 3 (fF rfl (fF rfl (cQ [0] rfl rfl c2 (by rw [h20];simp only [AV.mapL,fU hi];rfl) rfl (by decide) ⟨.inr (cM rfl rfl (eM _)),trivial⟩ (by simp) rfl ?_))))|(refine rg 4 (mW rfl (aV ?_)))|(refine rg 5 (fF rfl (vV (dS rfl rfl (by omega) (by omega)) (aV ?_))))|refine nZ ?_));all_goals first | (exfalso;omega) | exact ⟨true,by decide,⟨[0],rfl,⟨rfl,rfl,by rw [fU hi];rfl,rfl,rfl,rfl,trivial⟩,⟨.inr (cM rfl (gW _ (eM _)) (eM _)),trivial⟩,by decide,wL⟩⟩
    · dsimp only [cond]
      (repeat' (first|refine wS ?_|refine wB ?_|refine wE ?_|(refine wC rfl ?_ ?_<;>(intro hb;(try simp only [nm] at hb);try (exfalso;omega)))|(refine rg 2 (fF rfl (vV (iR rfl rfl) ?_)))|(refine rg 6 (fF rfl (fF rfl (cQ [0] rfl rfl c3 (by rw [h20];simp only [AV.mapL,fU hi];rfl) rfl (by decide) ⟨.inr (cM rfl rfl (eM _)),trivial⟩ (by simp) rfl ?_))))|refine nZ ?_));all_goals try (exfalso;omega)
      refine eX (X := Unit) (fun _ => [(0,.sl 0 0 l.length 1),(1,.i l.length),(6,.i 20)]) (fun _ => [.arr (fT (kK key l)) 1]) (fun _ => 0) () ⟨[0],rfl,⟨rfl,rfl,rfl,trivial⟩,⟨.inr (cM rfl (gW _ (eM _)) (eM _)),trivial⟩,by decide,wL⟩ ?_
      intro _;dsimp only
      (repeat' (first|refine wS ?_|refine wE ?_|(refine wC rfl ?_ ?_<;>(intro hb;(try simp only [nm] at hb);try (exfalso;omega)))|(refine rg 7 (fF rfl (vV (bA rfl rfl) ?_)))|refine nZ ?_));all_goals first | (exfalso;omega) | exact ⟨.inl rfl,[0],_,rfl,rfl,rfl,⟨.inr (cM rfl rfl (eM _)),trivial⟩,by decide,wL⟩ | exact ⟨.inr rfl,[0],_,rfl,rfl,rfl,⟨.inr (cM rfl rfl (eM _)),trivial⟩,by decide,wL⟩
theorem K4 {F : FuncId} {caps : List AV} {key : Int → Int} (l : List Int) (hl : l.length ≤ 20) (hi : AV.idfL caps = true)
    (hF : ∀ x y,x ∈ l → y ∈ l → bN Tryz.prog F (.i x :: .i y :: caps) [] (.i (CA (key x) (key y))) []) :
    bN Tryz.prog 102 [.sl 0 0 l.length 1,.clo (.func F) [] caps] [.arr (fT l) 1] (.tup []) [.arr (fT (kK key l)) 1] := by
  have c1 := GU (F := F) (caps := caps) (key := key) l hl hi hF;refine dC T Tryz.func102 rfl rfl rfl rfl ?_
  (repeat' (first|(refine rg 0 (fF rfl (qW T rfl (mW rfl (cQ [0] rfl rfl c1 (by simp only [AV.mapL,fU hi];rfl) rfl (by decide) ⟨.inr (cM rfl rfl (eM _)),trivial⟩ (by simp) rfl ?_)))))|refine nZ ?_));all_goals first | (exfalso;omega) | exact ⟨.inl rfl,[0],_,rfl,rfl,rfl,⟨.inr (cM rfl (gW _ (eM _)) (eM _)),trivial⟩,by decide,wL⟩ | exact ⟨.inr rfl,[0],_,rfl,rfl,rfl,⟨.inr (cM rfl (gW _ (eM _)) (eM _)),trivial⟩,by decide,wL⟩
theorem PD (ls : List Lo) (bs : List Bo) (w : Wt) (hl : ls.length ≤ 1000000) (hb : bs.length ≤ 20) (hk : Y3 ls bs) :
    bN Tryz.prog 54 [.rowE (jF ls) 3,.rowE (eR bs) 3,.agg [.i w.1,.i w.2.1,.i w.2.2]] [] (.sl 0 0 (rR ls bs w).length 1) [.arr (fT (rR ls bs w)) 1] := by
  have hll := oU ls;have hbb := gX bs;have hsl := E9 (ls := ls) (bs := bs) (w := w) (n := bs.length);have hso : (rR ls bs w).length = (vK ls bs w bs.length).length := qR;have hmem : ∀ x,x ∈ vK ls bs w bs.length → (0 ≤ x ∧ x < bs.length) ∧ 0 ≤ (bs.getD x.toNat (0,0,0)).1 ∧ (bs.getD x.toNat (0,0,0)).1 < ls.length := fun x hx => by
    have h1 := xB.1 (show x ∈ rR ls bs w from yR.2 hx)
    refine ⟨h1.1,?_,(hk x.toNat (by omega)).2⟩
    have h2 := h1.2.2;unfold nC at h2;simp only [aM,decide_eq_true_eq] at h2;exact h2.1
  have hsrt := K4 (F := 103) (caps := [.pr [.rowE (jF ls) 3] 0,.pr [.rowE (eR bs) 3] 0]) (key := LL ls bs) (vK ls bs w bs.length) (by omega) rfl fun x y hx hy =>
    TA ls bs x y hl (by omega) (hmem x hx).1 (hmem y hy).1 (hmem x hx).2 (hmem y hy).2
  refine dC T Tryz.func54 rfl rfl rfl rfl ?_
  (repeat' (first|refine wS ?_|(refine rg 0 (cY (fG rfl rfl) rfl (cY (fG rfl rfl) rfl (cY (fG rfl rfl) rfl (aV ?_)))))|refine nZ ?_));refine gP 3 (cs := [.rowE (jF ls) 3]) rfl rfl rfl ?_
  refine gP 4 (cs := [.rowE (eR bs) 3]) rfl rfl rfl ?_;refine gP 5 (cs := [.i w.1,.i w.2.1,.i w.2.2]) rfl rfl rfl ?_
  (repeat' (first|refine wS ?_|(refine rg 1 (aV ?_))|refine nZ ?_));refine I7 7 1 rfl (by decide) ?_
  (repeat' (first|refine wB ?_|(refine rg 2 (lW T rfl (qW T rfl (mV ?_))))|refine nZ ?_));refine eX (X := {k : Nat // k ≤ bs.length}) (fun k => [(3,.pr [.rowE (jF ls) 3] 0),(4,.pr [.rowE (eR bs) 3] 0),(5,.pr [.i w.1,.i w.2.1,.i w.2.2] 0),(7,.sl 0 0 (vK ls bs w k.1).length 1),(10,.rowE (eR bs) 3),(11,.i (eR bs).length),(12,.i k.1)]) (fun k => [.arr (fT (vK ls bs w k.1)) 1]) (fun k => bs.length - k.1) ⟨0,bM _⟩ ⟨[3],rfl,by (repeat (first | exact trivial | refine ⟨rfl,?_⟩)),⟨.inr rfl,trivial⟩,by decide,nP _⟩ ?_
  rintro ⟨k,hk2⟩;dsimp only;by_cases hlt : k < bs.length
  · have hg := V8 hlt;have hsk := E9 (ls := ls) (bs := bs) (w := w) (n := k);have hss := GX (ls := ls) (bs := bs) (w := w) (k := k);have hlk := hk k hlt;have hcn : cnt bs k = (bs.getD k (0,0,0)).2.1 := by unfold cnt;rw [bK]
    rw [hcn] at hss;have hnl := qZ (vK ls bs w k);generalize bs.getD k (0,0,0) = x at *;have hf := QC ls x w hl hlk.2;generalize vK ls bs w k = S at *;by_cases hc : 0 < x.2.1 ∧ nC ls x w = true
    · rw [if_pos hc] at hss;rw [hc.2] at hf;have hc1 := hc.1;obtain ⟨xl,xc,xt⟩ := x;dsimp only at *
      (repeat' (first|refine wS ?_|refine wB ?_|refine wK ?_|refine wT ?_|(refine wC rfl ?_ ?_<;>(intro hb;(try simp only [nm] at hb);try (exfalso;omega)))|(refine rg 3 (vV (bA rfl rfl) ?_))|(refine rg 4 (mW rfl (vV (ix T rfl (by omega) (lB bs) hg) (lW T rfl (cY (cS T rfl) rfl (aW rfl (bE T rfl rfl rfl rfl rfl rfl (by decide) rfl ?_)))))))|(refine rg 5 (jH T rfl (vV (gJ rfl rfl) (mV ?_)));refine bL rfl rfl ?_ ?_<;>(intro hb;rw [hb];(try simp only [nm] at hb);try (exfalso;omega));(all_goals (refine yO T rfl (yO T rfl (yO T rfl (yV (kC (hf)) (pV ?_)))))))|(refine rg 6 (fF rfl (cY (by exact cF T rfl rfl (by decide) (by decide) rfl rfl rfl) rfl ?_));refine hY T rfl rfl rfl rfl rfl rfl (by omega) (kQ.whole rfl rfl) rfl (by simp;omega) (by simp;omega) rfl ?_;refine aV ?_)|(refine rg 7 (vV (dS rfl rfl (by omega) (by omega)) (mV ?_)))|refine nZ ?_));all_goals first | (exfalso;omega) | exact ⟨⟨k + 1,hlt⟩,by dsimp only;omega,⟨[3],rfl,⟨rfl,rfl,rfl,by dsimp only;rw [hss,aC];rfl,rfl,rfl,rfl,trivial⟩,⟨.inr (cM rfl (by dsimp only;rw [hss];exact KZ S _) (eM _)),trivial⟩,by decide,nP _⟩⟩
    · rw [if_neg hc] at hss;by_cases hc1 : 0 < x.2.1
      · have hf0 : nC ls x w = false := by cases e : nC ls x w with
          | false => rfl
          | true => exact absurd ⟨hc1,e⟩ hc
        rw [hf0] at hf;obtain ⟨xl,xc,xt⟩ := x;dsimp only at *
        (repeat' (first|refine wS ?_|refine wB ?_|refine wK ?_|refine wU ?_|(refine wC rfl ?_ ?_<;>(intro hb;(try simp only [nm] at hb);try (exfalso;omega)))|(refine rg 3 (vV (bA rfl rfl) ?_))|(refine rg 4 (mW rfl (vV (ix T rfl (by omega) (lB bs) hg) (lW T rfl (cY (cS T rfl) rfl (aW rfl (bE T rfl rfl rfl rfl rfl rfl (by decide) rfl ?_)))))))|(refine rg 5 (jH T rfl (vV (gJ rfl rfl) (mV ?_)));refine bL rfl rfl ?_ ?_<;>(intro hb;rw [hb];(try simp only [nm] at hb);try (exfalso;omega));(all_goals (refine yO T rfl (yO T rfl (yO T rfl (yV (kC (hf)) (pV ?_)))))))|(refine rg 7 (vV (dS rfl rfl (by omega) (by omega)) (mV ?_)))|refine nZ ?_));all_goals first | (exfalso;omega) | exact ⟨⟨k + 1,hlt⟩,by dsimp only;omega,⟨[0],rfl,⟨rfl,rfl,rfl,by dsimp only;rw [hss];rfl,rfl,rfl,rfl,trivial⟩,⟨.inr (cM rfl (by dsimp only;rw [hss]) (eM _)),trivial⟩,by decide,nP _⟩⟩
      · obtain ⟨xl,xc,xt⟩ := x;dsimp only at *
        (repeat' (first|refine wS ?_|refine wB ?_|refine wK ?_|refine wU ?_|(refine wC rfl ?_ ?_<;>(intro hb;(try simp only [nm] at hb);try (exfalso;omega)))|(refine rg 3 (vV (bA rfl rfl) ?_))|(refine rg 4 (mW rfl (vV (ix T rfl (by omega) (lB bs) hg) (lW T rfl (cY (cS T rfl) rfl (aW rfl (bE T rfl rfl rfl rfl rfl rfl (by decide) rfl ?_)))))))|(refine rg 5 (jH T rfl (vV (gJ rfl rfl) (mV ?_)));refine bL rfl rfl ?_ ?_<;>(intro hb;rw [hb];(try simp only [nm] at hb);try (exfalso;omega));(all_goals ((iterate 4 refine gF ?_);refine pV ?_)))|(refine rg 7 (vV (dS rfl rfl (by omega) (by omega)) (mV ?_)))|refine nZ ?_));all_goals first | (exfalso;omega) | exact ⟨⟨k + 1,hlt⟩,by dsimp only;omega,⟨[0],rfl,⟨rfl,rfl,rfl,by dsimp only;rw [hss];rfl,rfl,rfl,rfl,trivial⟩,⟨.inr (cM rfl (by dsimp only;rw [hss]) (eM _)),trivial⟩,by decide,nP _⟩⟩
  · obtain rfl : k = bs.length := by omega
    (repeat' (first|refine wS ?_|refine wR ?_|refine wE ?_|(refine wC rfl ?_ ?_<;>(intro hb;(try simp only [nm] at hb);try (exfalso;omega)))|(refine rg 3 (vV (bA rfl rfl) ?_))|(refine rg 8 (mW rfl (vV (by exact nU rfl rfl) ?_));refine cQ [0] rfl rfl hsrt (by simp only [AV.mapL];rfl) rfl (by decide) ⟨.inr (cM rfl rfl (eM _)),trivial⟩ (by simp) rfl ?_)|(refine rg 9 (mW rfl (aV ?_)))|refine nZ ?_));all_goals first | (exfalso;omega) | exact ⟨.inl rfl,[0],_,rfl,(by rw [← hso];rfl),rfl,⟨.inr (cM rfl (gW _ (eM _)) (eM _)),trivial⟩,by decide,nP _⟩
end Go.Proofs.YtdiogjgohbbllaaGreatDoor
namespace Go.Ab
open Go
theorem F7 {α : Type} : ∀ (xs A B C : List α), B.length = xs.length → gM (A ++ B ++ C) A.length xs = A ++ xs ++ C
  | [],A,B,C,h => by
    have : B = [] := bV h;subst this;simp [gM]
  | x :: xs,A,[],C,h => by simp at h
  | x :: xs,A,b :: B,C,h => by
    have e : (A ++ (b :: B) ++ C).set A.length x = (A ++ [x]) ++ B ++ C := by simp
    have ih := F7 xs (A ++ [x]) B C (by simpa using h)
    rw [aC,cK] at ih;show gM ((A ++ (b :: B) ++ C).set A.length x) (A.length + 1) xs = _;rw [e,ih];simp
theorem AJ {α : Type} {xs B : List α} (h : B.length = xs.length) : gM B 0 xs = xs := by
  have := F7 xs [] B [] h;simpa using this
section
variable {P : Program} {n : Nat × Nat} {ops : Array Oper} {rest : List Oper} {env : cJ} {h : Hp} {K : cJ → Hp → Prop}
variable {ty : TypeId} {pos : String} {af : Array Edge}
theorem OJ (T : lR P) {t e k m sz dd : Nat} {ats : Array TypeId} {i : TI} {x y : Operand} {v : AV} {ds es : List (List AV)} (hx : evu env x = some (.sl k 0 m sz)) (hy : evu env y = some v) (hat : ats[0]? = some t) (ht : T.elem t = some e) (he : T.ti e = some i) (hs : i.size = sz)
    (hkk : h[k]? = some (.arr ds sz)) (hn : kQ h v es sz) (h1 : es.flatten.all AV.one = true) (hd1 : ds.length = m) (hd2 : es.length = m) (hd : yZ (some dd) n = true)
    (hk : VC P n ops rest ((dd,.i m) :: env) (h.set k (.arr es sz)) K) :
    VC P n ops (⟨some dd,.call { callee := .builtin .copy,args := #[x,y],argTypes := ats },ty,pos,af,none⟩ :: rest) env h K := by
  intro c ρ S a w Q s hQ;refine wpList_plain rfl fun K' hK' => ?_
  have p := s.pre;have hxv := p.evu hx;obtain ⟨a2,c2,zs,y1,y2,y3,y4,y5,y6,y7⟩ := oX p.blk (p.evu hy) hn;obtain ⟨inf,z,t1,t2,t3,t4,t5,t6,t7⟩ := T.tiOk e i he;have hone := xC y6 h1;have hB := p.blk k _ hkk;simp only [RB] at hB;obtain ⟨hes,hs0,hB⟩ := hB;have hel : ∀ q,q ∈ es → q.length = sz := by
    cases hn with
    | sl hk2 _ =>
      have := p.blk _ _ hk2;simp only [RB] at this;exact fun q hq => this.1 q (gE (gD hq))
    | row h => exact h
    | nil => exact fun q hq => by cases hq
  simp only [R] at hxv;obtain ⟨a1,c1,x1,x2,x3⟩ := hxv;rw [hd2] at y1 y5 y7;have hf := oS (P := P) (w := w) (size := inf.size) (m := m) (cap := c2) (a := a2) (by rw [t2,hs];exact y5) y7
  have ev1 : ∀ r w',(Builtin.copy_ ats ty #[a.eval x,a.eval y]).run P w = .ok r w' → (execOp a.eval ⟨some dd,.call { callee := .builtin .copy,args := #[x,y],argTypes := ats },ty,pos,af,none⟩).run P w = .ok (.value r) w' := fun r w' hr => by
    simp [execOp,resolve,invoke,builtin,hr]
  have hund := run_underlying (P := P) (T.elemOk _ _ ht) w;have hsz : (sizeOf e).run P w = .ok inf.size w := by simp [sizeOf,typeInfo,t1]
  by_cases hm : m = 0
  · subst hm;have hz : zs = [] := bV (by rw [y5];simp)
    subst hz;have hde : ds = [] := bV hd1;have hee : es = [] := bV hd2;subst hde hee;have hset : h.set k (.arr [] sz) = h := by
      apply cU;intro j;rw [bQ];split
      · rename_i e;subst e;rw [hkk];simp [(aA.1 hkk).1]
      · rfl
    have hr : (Builtin.copy_ ats ty #[a.eval x,a.eval y]).run P w = .ok (.int .i64 0) w := by
      rw [x1,y1];cases a1 with
      | none => simp [Builtin.copy_,hat,hund,Builtin.lenOf,hsz,hf,goInt,Nat.min_def]
      | some a1 => simp [Builtin.copy_,hat,hund,Builtin.lenOf,hsz,hf,storeCells,goInt,Nat.min_def]
    unfold Oper.wp;rw [ev1 _ _ hr];rw [hset] at hk;exact hK' _ _ (hk c ρ S _ w Q ⟨by rw [gC];exact s.size,by rw [eN];exact s.defers,kP s.size hd s.env (by simp [R]),s.hs,s.cm⟩ hQ)
  · rcases x3 with ⟨x3,_⟩ | ⟨b,o,x4,x5,x6,x7⟩
    · exact absurd x3 hm
    rw [YN,Nat.add_zero] at x5;rcases hB with ⟨hB,_⟩ | ⟨b',o',ys,z1,⟨cc,ee,z2,z3⟩,z4⟩
    · subst hB;exact absurd hd1.symm hm
    rw [x4] at z1;cases z1;have hyl := dW z4;have hfl := dR hes;have hfl2 := dR hel;have hzl : zs.length = ys.length := by rw [y5,hyl,hfl,hd1]
    have hzp : 0 < zs.length := by rw [y5];exact Nat.mul_pos (by omega) hs0
    obtain ⟨f1,f2,f3⟩ := tV (off := 0) (zs := zs) z2 z3 (by omega) hzp
    have hst := run_storeCells_at P b o ee zs 0 cc w z2 (by simpa using f1) hone
    simp only [Nat.add_zero] at hst f1 f2 f3;have hr : (Builtin.copy_ ats ty #[a.eval x,a.eval y]).run P w = .ok (.int .i64 m) (w.setRow b (cc.toList.take o ++ zs ++ cc.toList.drop (o + zs.length)).toArray) := by
      rw [x1,y1,x5];simp [Builtin.copy_,hat,hund,Builtin.lenOf,hsz,hf,hst,goInt,Nat.min_def]
    unfold Oper.wp;rw [ev1 _ _ hr]
    obtain ⟨g1,g2⟩ := s.hs.upd (nb := .arr es sz) hkk (by simp) x4 (mH z2 f3) (fun l => by
      simp only [RB];refine ⟨hel,hs0,.inr ⟨b,o,_,rfl,f2,?_⟩⟩;rw [AJ (xs := zs) (B := ys) hzl.symm]
      exact y6.later l)
    exact hK' _ _ (hk c ρ S _ _ Q ⟨by rw [gC];exact s.size,by rw [eN];exact s.defers.later g2,kP s.size hd (fun tt uu huu => (s.env tt uu huu).later g2) (by simp [R]),g1,s.cm⟩ hQ)
end
def XC {P : Program} (T : lR P) (rs : List ResultVar) (Φ : AV → Hp → Prop) (e : Exit) (v : cJ) (h : Hp) : Prop := (e = .ret ∨ e = .normal) ∧ ∃ xs,pU T v h rs = some xs ∧ Φ (qX xs) h
theorem jO {P : Program} (T : lR P) {f : FuncId} {fn : Func} {code : Code} {n : Nat} {args : List AV} {hin : Hp} {Φ : AV → Hp → Prop} (hf : P.funcs[f]? = some fn) (hb : fn.body = some code) (hnm : (fn.name == "runtime.NumGoroutine") = false) (hn : fn.ntmps = n) (ha : Nat.ble args.length n = true)
    (haw : AW P (n,hin.length) code (oB 0 args) hin (XC T fn.results.toList Φ)) : eS P f args hin Φ := by
  refine ⟨⟨fn,hf,hnm,by rw [hb];rfl⟩,?_⟩
  intro ρ S w vs hs hargs;have hlen := dW hargs;have hle := aU ha;refine (callsIn_wide (n := 0)).1 (callsIn_of_wp_marks (F := Fence.wide) hf hb trivial ?_ rfl);refine haw (gL w ρ S hin) ρ S _ w _ ⟨?_,oI.nil rfl _ _,fun t x hx => ?_,hs,rfl⟩ ?_
  · simp [hn];omega
  · obtain ⟨_,h1⟩ := qE hx;simp only [YO] at h1;obtain ⟨y,h2,h3⟩ := kF hargs t x h1;have hlt : t < vs.length := (aA.1 h2).1;have : (vs.toArray ++ Array.replicate (fn.ntmps - vs.toArray.size) undef).getD t undef = y := by
      rw [cE,kA (by simpa using hlt)]
      simp [h2]
    rw [this];exact h3
  · intro e env' h' ρ' S' a' w' hq s;obtain ⟨he,xs,h1,hΦ⟩ := hq;have fin : ∀ S2 w2,HS (gL w ρ S hin) ρ' S2 h' w2 → (∀ x y,R S' w' x ρ' y → R S2 w2 x ρ' y) → ∃ v,(results fn a'.tmps).run P w2 = .ok v w2 ∧ (fun e w' => ∃ res hout,Φ res hout ∧ ∃ y ρ' S',e = Ending.returned y ∧ HS (gL w ρ S hin) ρ' S' hout w' ∧ R S' w' res ρ' y) (.returned v) w2 := fun S2 w2 s2 hr => by
      obtain ⟨ys,h7,h8⟩ := nS T s2.blk (fun t x hx => hr _ _ (s.env t x hx)) h1;have hres : ∃ y,(results fn a'.tmps).run P w2 = .ok y w2 ∧ R S2 w2 (qX xs) ρ' y := by
        have hm : (fn.results.mapM (pB a'.tmps)).run P w2 = .ok ys.toArray w2 := by
          rw [zU];simp only [Sem.run_map,h7,Result.andThen_ok]
        have hl := dW h8;rw [vQ];simp only [Sem.run_bind,hm,Result.andThen_ok,Sem.run_pure];refine ⟨_,rfl,?_⟩
        match xs,ys,h8,hl with
        | [x],[y],h8,_ =>
          simp only [RL] at h8;obtain ⟨y',zs,e1,h9,_⟩ := h8;cases e1;simpa [qX] using h9
        | [],[],h8,_ =>
          simp only [qX,R];exact ⟨#[],by simp,by simp [RL]⟩
        | x :: x2 :: xs,y :: y2 :: ys,h8,_ =>
          simp only [qX,R];refine ⟨(y :: y2 :: ys).toArray,?_,by simpa using h8⟩
          rw [dif_neg (by simp)]
      obtain ⟨y,h9,h10⟩ := hres;exact ⟨y,h9,qX xs,h',hΦ,y,_,S2,rfl,s2,h10⟩
    obtain ⟨⟨D,hD1,hD2,hD3⟩,_⟩ := s.defers;have hl : LeavesInM Fence.wide 0 P fn a'.tmps (fun e w' => ∃ res hout,Φ res hout ∧ ∃ y ρ' S',e = Ending.returned y ∧ HS (gL w ρ S hin) ρ' S' hout w' ∧ R S' w' res ρ' y) a'.defers .returning w' := by
      rw [hD1];exact tU (c := gL w ρ S hin) (aQ _) (fun b hb => hs.stab b hb) D S' w' s.hs hD2 hD3 fin
    rcases he with rfl | rfl
    · exact hl
    · exact hl
theorem BZ {l : List Oper} {pres : List (List Nat)} {ds : List Nat} {bads : List (List Nat)} {n s k s2 k2 : Nat} (h : iQ l pres ds bads n = true) (hs : Nat.blt s pres.length = true) (hs2 : Nat.blt s2 pres.length = true) (hne : Nat.beq s2 s = false) (hr : (pres.getD s2 []).any (Nat.beq s) = true) :
    fL l pres ds bads [(s,k),(s2,k2)] n = true := by
  simp only [fL,CT,h,hs,hs2,hne,hr,GM,List.all_nil,Bool.not_false,oG,Bool.and_true,jM]
theorem JI {h : Hp} {k off : Nat} {cs xs : List AV} (hk : h[k]? = some (.cells cs)) (hl : Nat.ble (off + xs.length) cs.length = true) : K3 h (.ptr k off) xs = some (k,.cells (gM cs off xs)) := by simp only [K3,hk,hl]
theorem tI {P : Program} {env : cJ} {h : Hp} {d : Option Nat} {ty : TypeId} {pos : String} {af : Array Edge} {g : Option (Nat × Bool)} {x : Operand} {u z : AV} (hx : evu env x = some u) (hz : u.plus 0 = some z) : GL P ⟨d,.nilCheck x,ty,pos,af,g⟩ env h u := by
  intro ρ S a w p;obtain ⟨b,o,h1,h2⟩ := tJ (p.evu hx) hz;have h3 := p.evu hx;rw [h1] at h3;exact ⟨_,fun w' => by simp [execOp,h1],h3⟩
end Go.Ab
namespace Go.Ab
theorem bS {H Z : Hp} {k : Nat} {b : AB} (h : H[k]? = some b) : (H ++ Z)[k]? = some b := by
  rw [aG (aA.1 h).1];exact h
theorem fZ {H : Hp} {k q : Nat} {b x : AB} (hk : k ≠ q) (h : H[k]? = some b) : (H.set q x)[k]? = some b := by
  rw [gG (Ne.symm hk)];exact h
theorem gA {H : Hp} {q : Nat} {x : AB} (h : q < H.length) : (H.set q x)[q]? = some x := by
  rw [eP h]
theorem cP {H : Hp} {b : AB} : (H ++ [b])[H.length]? = some b := by simp
theorem vP {H Z : Hp} (h : OF H) (z : OF Z) : OF (H ++ Z) := fun b hb => by
  rcases bD.1 hb with hb | hb
  · exact h b hb
  · exact z b hb
theorem vO {b : AB} (h : b.rf = true) : OF [b] := fun x hx => by rw [bG.1 hx];exact .inr h
theorem DN {H : Hp} {q : Nat} {x : AB} (h : OF H) (z : x = .gone ∨ x.rf = true) : OF (H.set q x) := fun b hb => by
  obtain ⟨j,hj⟩ := bT.1 hb;rw [bQ] at hj;split at hj
  · split at hj
    · cases hj;exact z
    · cases hj
  · exact h b (aH hj)
end Go.Ab
namespace Go.Or
open Go Go.Ab
theorem SC (l : List Tk) : (AB.arr (eO l) 2).rf = true := aT.2 fun e he => by obtain ⟨i,_,rfl⟩ := aJ.1 he;rfl
theorem DO (l : List Bo) : (AB.arr (eR l) 3).rf = true := aT.2 fun e he => by obtain ⟨i,_,rfl⟩ := aJ.1 he;rfl
theorem SE (N : List (Nat × List Tk)) : (AB.arr (kX N) 1).rf = true := aT.2 fun e he => by obtain ⟨i,_,rfl⟩ := aJ.1 he;rfl
theorem V6 (l : List Bo) : AV.plOL (eR l).flatten = true := G0 (fun _ => rfl) _
theorem JL (l : List Tk) (x : Tk) : (List.take l.length (List.drop 0 (eO l))) ++ [[AV.i x.1,AV.i x.2]] = eO (l ++ [x]) := by
  rw [dI,aX (by simp)];simp
theorem MV {bs : List Bo} {j : Int} {x : Bo} : (eR bs).set j.toNat [AV.i x.1,AV.i x.2.1,AV.i x.2.2] = eR (bs.set j.toNat x) := by
  show _ = List.map (fun b : Bo => [AV.i b.1,AV.i b.2.1,AV.i b.2.2]) (bs.set j.toNat x);rw [oF]
theorem qG.more {X Y : Hp} {N : List (Nat × List Tk)} (h : qG X N) (hf : ∀ e,e ∈ N → ∀ b,X[e.1]? = some b → Y[e.1]? = some b) : qG Y N := fun e he => by
  exact hf e he _ (h e he)
structure OG (left0 : List Bo) (ord : List Int) (need0 : Int) (N : List (Nat × List Tk)) (p : Nat) (X : Hp) (j : Nat) (left : List Bo) (tk : List Tk) (need : Int) (q : Nat) : Prop where
  jl : j ≤ ord.length
  eq : kJ ord left0 need0 = (tk ++ (kJ (ord.drop j) left need).1,(kJ (ord.drop j) left need).2)
  len : left.length = left0.length
  nn : ∀ b : Int,0 ≤ b → 0 ≤ cnt left b ∧ cnt left b ≤ 20000
  lot : ∀ b : Int,0 ≤ b → (left.getD b.toNat (0,0,0)).1 = (left0.getD b.toNat (0,0,0)).1
  n0 : 0 ≤ need ∧ need ≤ 20000
  tl : tk.length ≤ j
  h0 : X[0]? = some (.arr (eR left) 3)
  hp : X[p]? = some (.arr (kX N) 1)
  hn : qG X N
  hq : X[q]? = some (.arr (eO tk) 2)
  nd : (0 :: p :: q :: N.map (·.1)).Nodup
  rf : OF X
theorem DD {i : Int} {l : List Int} {left : List Bo} {need : Int} (h : min need (cnt left i) ≠ 0) : kJ (i :: l) left need =
    ((i,min need (cnt left i)) :: (kJ l (qM left i (min need (cnt left i))) (need - min need (cnt left i))).1,(kJ l (qM left i (min need (cnt left i))) (need - min need (cnt left i))).2) := by
  rw [kJ,if_neg h]
theorem OG.next {left0 : List Bo} {ord : List Int} {need0 : Int} {N : List (Nat × List Tk)} {p : Nat} {X : Hp} {j : Nat} {left : List Bo} {tk : List Tk} {need : Int} {q : Nat} (h : OG left0 ord need0 N p X j left tk need q)
    (hj : j < ord.length) (ho : ∀ i,i ∈ ord → 0 ≤ i ∧ i < left0.length) (hm : min need (cnt left ord[j]) ≠ 0) :
    OG left0 ord need0 N p (((X ++ [AB.arr [[AV.i ord[j],AV.i (min need (cnt left ord[j]))]] 2]).set q AB.gone ++ [AB.arr (eO (tk ++ [(ord[j],min need (cnt left ord[j]))])) 2]).set 0 (AB.arr (eR (qM left ord[j] (min need (cnt left ord[j])))) 3)) (j + 1) (qM left ord[j] (min need (cnt left ord[j]))) (tk ++ [(ord[j],min need (cnt left ord[j]))]) (need - min need (cnt left ord[j])) (X ++ [AB.arr [[AV.i ord[j],AV.i (min need (cnt left ord[j]))]] 2]).length := by
  obtain ⟨i0,i1⟩ := ho _ (aI hj);have hd := aS hj;have heq := h.eq;rw [hd,DD hm] at heq;have hil : ord[j] < left.length := by rw [h.len];exact i1
  have hc := h.nn ord[j] i0;have hn0 := h.n0;generalize ord[j] = i at *;have hnn : 0 ≤ min need (cnt left i) ∧ min need (cnt left i) ≤ need ∧ min need (cnt left i) ≤ cnt left i := by omega
  generalize min need (cnt left i) = n at *;have hnd := h.nd;simp only [aL,aR,not_or] at hnd;obtain ⟨⟨a1,a2,a3⟩,⟨a4,a5⟩,a6,a7⟩ := hnd;have hql := (aA.1 h.hq).1;have hpl := (aA.1 h.hp).1;have h0l := (aA.1 h.h0).1;have hnl : ∀ e,e ∈ N → e.1 < X.length := fun e he => by
    have h1 := h.hn e he;exact (aA.1 h1).1
  have hmem : ∀ e,e ∈ N → e.1 ∈ N.map (·.1) := fun e he => aJ.2 ⟨e,he,rfl⟩
  have keep : ∀ {k : Nat} {b : AB},X[k]? = some b → k ≠ q → k ≠ 0 → ((((X ++ [AB.arr [[AV.i i,AV.i n]] 2]).set q AB.gone) ++ [AB.arr (eO (tk ++ [(i,n)])) 2]).set 0 (AB.arr (eR (qM left i n)) 3))[k]? = some b := fun hk h1 h2 =>
    fZ h2 (bS (fZ h1 (bS hk)))
  refine ⟨hj,by rw [heq];simp,by rw [pJ];exact h.len,fun b hb => ?_,fun b hb => ?_,by omega,?_,gA (by simp),keep h.hp (fun e => a4 e) (fun e => a1 e.symm),?_,?_,?_,?_⟩
  · rw [uA i0 hil hb];have := h.nn b hb;split <;> omega
  · rw [tZ i0 hil hb];exact h.lot b hb
  · rw [aC,cK];have := h.tl;omega
  · exact h.hn.more fun e he b hb => keep hb (fun e1 => a6 (e1 ▸ hmem e he)) (fun e1 => a3 (e1 ▸ hmem e he))
  · refine fZ (by simp) ?_
    have e1 : (X ++ [AB.arr [[AV.i i,AV.i n]] 2]).length = ((X ++ [AB.arr [[AV.i i,AV.i n]] 2]).set q .gone).length := by simp
    rw [e1];exact cP
  · have hz : (X ++ [AB.arr [[AV.i i,AV.i n]] 2]).length = X.length + 1 := by simp
    rw [hz];simp only [aL,aR,not_or];refine ⟨⟨a1,by omega,a3⟩,⟨by omega,a5⟩,fun hm => ?_,a7⟩
    obtain ⟨e,he,e1⟩ := aJ.1 hm;have := hnl e he;omega
  · exact DN (vP (DN (vP h.rf (vO rfl)) (.inl rfl)) (vO (SC _))) (.inr (DO _))
structure Y0 (ls : List Lo) (bs : List Bo) (ws : List Wt) (k : Nat) (left : List Bo) (N : List (Nat × List Tk)) (p : Nat) (X : Hp) : Prop where
  kl : k ≤ ws.length
  eq : pD ls bs ws = (pD ls left (ws.drop k)).map (N.map (·.2) ++ ·)
  nl : N.length = k
  len : left.length = bs.length
  nn : ∀ b : Int,0 ≤ b → 0 ≤ cnt left b ∧ cnt left b ≤ 20000
  lot : ∀ b : Int,0 ≤ b → (left.getD b.toNat (0,0,0)).1 = (bs.getD b.toNat (0,0,0)).1
  h0 : X[0]? = some (.arr (eR left) 3)
  hp : X[p]? = some (.arr (kX N) 1)
  hn : qG X N
  nd : (0 :: p :: N.map (·.1)).Nodup
  rf : OF X
def WJ (ls : List Lo) (bs : List Bo) (ws : List Wt) (r : AV) (o : Hp) : Prop := ∃ x A,r = .tup [x,.i (pZ ls bs ws).1] ∧ kG o x (pZ ls bs ws).2 A ∧ r.rf = true ∧ OF o
end Go.Or
namespace Go.Proofs.YtdiogjgohbbllaaGreatDoor
open Go Go.Ab Go.Or
attribute [local irreducible] VC AW bR bN eS
set_option maxHeartbeats 4000000
theorem HC (w : Wt) : bN Tryz.prog 53 [.agg [.i w.1,.i w.2.1,.i w.2.2]] [] (.b (!sA w)) [] := by
  have b1 : ∀ n l h : Int,bN Tryz.prog 58 [.i n,.i l,.i h] [] (.b (decide (l ≤ n) && decide (n ≤ h))) [] := fun n l h => by
    refine dC T Tryz.func58 rfl rfl rfl rfl ?_
    (repeat' (first|refine wS ?_|refine wR ?_|(refine rg 0 (aV ?_))|(refine rg 1 (fF rfl (vV (eV rfl rfl) (mV ?_)));refine bL rfl rfl ?_ ?_<;>(intro hb;rw [hb];(try simp only [nm] at hb);try (exfalso;omega));(all_goals first|(refine gT (mW rfl (gT (mW rfl (gT (vV (iR rfl rfl) ?_))))))|(iterate 3 refine gF ?_));(all_goals (refine pW rfl (aV ?_))))|refine nZ ?_));all_goals first | (exfalso;omega) | exact dZ (.inl rfl) rfl (wD (by first | rfl | (simp;omega) | (simp [*];done)))
  have c1 := b1 w.2.1 1 20000;have c2 := b1 w.2.2 0 20000;have e : (!sA w) = (decide (0 ≤ w.1) && ((decide (1 ≤ w.2.1) && decide (w.2.1 ≤ 20000)) && (decide (0 ≤ w.2.2) && decide (w.2.2 ≤ 20000)))) := by
    unfold sA;rw [S4];simp only [OA,gH,decide_eq_false_iff_not,aM,decide_eq_true_eq];omega
  rw [e];clear e b1;obtain ⟨a,b,c⟩ := w;dsimp only at *;generalize (decide (1 ≤ b) && decide (b ≤ 20000)) = u at *;generalize (decide (0 ≤ c) && decide (c ≤ 20000)) = v at *;cases u
  all_goals
    refine dC T Tryz.func53 rfl rfl rfl rfl ?_
    (repeat' (first|refine wS ?_|refine wR ?_|(refine rg 0 (cY (fG rfl rfl) rfl (aV ?_)))|(refine rg 1 (jH T rfl (vV (eV rfl rfl) (mV ?_)));refine bL rfl rfl ?_ ?_<;>(intro hb;rw [hb];(try simp only [nm] at hb);try (exfalso;omega));(all_goals first|(refine gT (fW T rfl (gT (lW T rfl (gT (vV (kC (c1)) ?_))))))|(iterate 3 refine gF ?_));(all_goals (refine pW rfl (mV ?_)));(all_goals first|(refine gT (fW T rfl (gT (lW T rfl (gT (vV (kC (c2)) ?_))))))|(iterate 3 refine gF ?_));(all_goals (refine pW rfl (aV ?_))))|refine nZ ?_));all_goals first | (exfalso;omega) | exact dZ (.inl rfl) rfl (wD (by first | rfl | (simp [*];done) | (simp;omega)))
theorem UD (w : Wt) : bN Tryz.prog 52 [.agg [.i w.1,.i w.2.1,.i w.2.2]] [] (.b (sA w)) [] := by
  have c1 := HC w;obtain ⟨a,b,c⟩ := w;dsimp only at *;generalize sA (a,b,c) = q at *;refine dC T Tryz.func52 rfl rfl rfl rfl ?_
  (repeat' (first|refine wS ?_|refine wR ?_|(refine rg 0 (cY (fG rfl rfl) rfl (aV ?_)))|(refine rg 1 (lW T rfl (vV (kC (c1)) (vV (eI rfl) (aV ?_)))))|refine nZ ?_));all_goals first | (exfalso;omega) | exact dZ (.inl rfl) rfl (wD (by cases q <;> rfl))
end Go.Proofs.YtdiogjgohbbllaaGreatDoor
namespace Go.Proofs.YtdiogjgohbbllaaGreatDoor
open Go Go.Ab Go.Shelf Go.Proofs
shelf_lay LaysM.n246 Nm 246 at Tryz as laysFmt
theorem ME (n : Int) (h0 : -9223372036854775808 ≤ n) (h1 : n ≤ 9223372036854775807) : bN Tryz.prog 134 [.i n,.i 10] [] (.s (Go.Lib.itoa n)) [] :=
  W8 (name := "internal/strconv.uint64pow10") (gi := 0) (tab := Go.Lib.pow10Tab) ⟨_, Tryz.func134, by kernel_rfl, by kernel_rfl⟩ (fun n w h2 h3 h4 => Any.internal_strconv_FormatInt_10 laysFmt n h2 h3 w h4) (by kernel_rfl) (by unfold qB Go.Lib.pow10Tab; simp [mP, Function.comp_def]) n h0 h1
theorem RC : (Tryz.prog.info? 123).map (·.size) = some 2 := by kernel_rfl
theorem VM : liesAt Tryz.prog Tryz.prog.depth 123 (2 / Tryz.prog.cellsOf 123) 0 123 1 = true := by kernel_rfl
theorem VB : Tryz.prog.underlying 163 = some .unsafePointer := by kernel_rfl
theorem ON : Tryz.prog.underlying 120 = some (.pointer 123) := by kernel_rfl
set_option maxHeartbeats 1000000 in
set_option maxRecDepth 100000 in
theorem MP (b : Nat) (w : World) (h0 : w.cell? ⟨b,0,none⟩ = some (.pointer none)) (hsh : w.shape? b = some (123,2)) (hfz : w.frozen? ⟨b,0,none⟩ = false) :
    Calls Tryz.prog 109 #[.pointer (some ⟨b,0,none⟩)] w fun e w' => e = .returned (.tuple #[]) ∧ w' = w.setCell ⟨b,0,none⟩ (.pointer (some ⟨b,0,none⟩)) := by
  obtain ⟨j,hj,hjs⟩ := bY.1 RC
  go_enter Tryz.func109,Tryz.ntmps109
  go_wp2
  rw [Go.Lib.run_to_unsafe w ⟨b,0,none⟩ ON VB hj (by rw [hjs];decide) hsh (Nat.zero_lt_succ 1)]
  simp only [Result.andThen];rw [Oper.upon_value]
  go_wp2
  rw [run_callFunc_extern Tryz.func123 (by kernel_rfl) (by kernel_rfl) (by kernel_rfl) (e := Extern.AbiNoEscape.same) (by kernel_rfl)]
  rw [Go.Lib.run_noEscape];simp only [Result.andThen];rw [Oper.upon_value]
  go_wp2
  rw [Go.Lib.run_from_unsafe w ⟨b,0,none⟩ VB ON hj hsh VM];simp only [Result.andThen];rw [Oper.upon_value]
  go_wp2
  go_end0
  exact ⟨rfl,rfl⟩
theorem IH (x : AV) : bN Tryz.prog 109 [.ptr 0 0] [.var 123 [.v (.pointer none),x]] (.tup []) [.cells [.ptr 0 0,x]] :=
  L1 ⟨_,Tryz.func109,by kernel_rfl,by kernel_rfl⟩ (fun b w h1 h2 h3 => MP b w h1 h2 h3)
end Go.Proofs.YtdiogjgohbbllaaGreatDoor
namespace Go.Proofs.YtdiogjgohbbllaaGreatDoor
open Go Go.Ab
attribute [local irreducible] VC AW bR bN
set_option maxHeartbeats 4000000
theorem jK : NN Tryz.prog 9 := by unfold NN;kernel_rfl
theorem VF : Tryz.prog.underlying 9 = some .string := by kernel_rfl
theorem WC : Tryz.prog.underlying 151 = some (.pointer 5) := by kernel_rfl
theorem WD : Tryz.prog.cellsOf 5 = 1 := by kernel_rfl
theorem XH : ∀ i : Nat,i < 2 → ([0,1,2] : List Nat)[i]? = some i := by decide
theorem XT : ∀ i : Nat,i < 2 → ([0,1] : List Nat)[i]? = some i := by decide
theorem MQ (l : List UInt8) : bN Tryz.prog 109 [.ptr 0 0] [.cells [.ptr 0 0,.sl 1 0 l.length 1],.buf 5 l] (.tup []) [.cells [.ptr 0 0,.sl 1 0 l.length 1],.buf 5 l] := by
  obtain ⟨j,hj,_⟩ := bY.1 RC;refine dC T Tryz.func109 rfl rfl rfl rfl ?_
  (repeat' (first|refine wS ?_|refine wK ?_|refine wU ?_|(refine rg 0 (mW rfl (nV ?_));refine jH T rfl (vV (by exact H6 ON rfl rfl rfl) ?_))|(refine rg 2 (mW rfl (nV ?_));refine jH T rfl (mW rfl (vV (by exact EF ON hj rfl rfl) ?_)))|refine nZ ?_));all_goals exact ⟨.inr rfl,[0,1],_,rfl,rfl,rfl,⟨.inr rfl,.inr rfl,trivial⟩,by decide,XT⟩
theorem wM (l s : List UInt8) (hl : l.length + s.length ≤ 100000000000) : bN Tryz.prog 74 [.ptr 0 0,.s s] [.cells [.ptr 0 0,.sl 1 0 l.length 1],.buf 5 l] (.tup [.i s.length,.v .nilIface]) [.cells [.ptr 0 0,.sl 2 0 (l.length + s.length) 1],.gone,.buf 5 (l ++ s)] := by
  refine dC T Tryz.func74 rfl rfl rfl rfl ?_
  (repeat' (first|refine wS ?_|refine wR ?_|(refine rg 0 (oC ?_))|(refine rg 1 (mW rfl (cQ [0,1] rfl rfl (MQ l) rfl rfl (by decide) ⟨.inr rfl,.inr rfl,trivial⟩ (by simp) rfl ?_)))|(refine rg 2 (fF rfl (nV ?_));refine jH T rfl (mW rfl (E4 T (e := 5) VF rfl rfl rfl rfl rfl rfl rfl rfl (by omega) rfl ?_));refine nV ?_;refine fW T rfl (bE T rfl rfl rfl rfl rfl rfl (by decide) rfl ?_))|(refine rg 3 (mW rfl (vV (nB jK rfl) (oC ?_))))|refine nZ ?_));all_goals exact ⟨.inl rfl,[0,1,2],_,rfl,rfl,rfl,⟨.inr rfl,.inl rfl,.inr rfl,trivial⟩,by decide,XH⟩
theorem VK : ∀ i : Nat,i < 1 → ([0,2] : List Nat)[i]? = some i := by decide
theorem JE (s : List UInt8) (hl : s.length ≤ 100000000000) : bN Tryz.prog 74 [.ptr 0 0,.s s] [.var 123 [.v (.pointer none),.nils]] (.tup [.i s.length,.v .nilIface]) [.cells [.ptr 0 0,.sl 1 0 s.length 1],.buf 5 s] := by
  refine dC T Tryz.func74 rfl rfl rfl rfl ?_
  (repeat' (first|refine wS ?_|(refine rg 0 (oC ?_))|(refine rg 1 (mW rfl (cQ [0] rfl rfl (IH .nils) rfl rfl (by decide) ⟨.inr rfl,trivial⟩ (by simp) rfl ?_)))|refine nZ ?_));refine oP [(0,.ptr 0 0),(1,.s s)] [.cells [.ptr 0 0,.nils]] ⟨[0],rfl,(by repeat first|exact trivial|refine ⟨rfl,?_⟩),(by (repeat (first | exact trivial | refine ⟨Or.inl rfl,?_⟩ | refine ⟨Or.inr rfl,?_⟩))),by decide,zF⟩ ?_
  refine QO 0 1 5 rfl rfl ?_;dsimp only [YL,YK,List.append_nil,YJ,YI,YH,YG,YF,YE,gM,fC,lK,oB,GR,yH,M0,L8,L7,L9,yG,yJ,yE,yI,Nat.zero_add,YD,Nat.reduceAdd,YC,YB]
  repeat' (first|refine wS ?_|refine wR ?_|(refine rg 2 (fF rfl (nV ?_));refine jH T rfl (mW rfl (E4 T (e := 5) (lb := []) VF rfl rfl rfl rfl rfl rfl rfl rfl (by simp;omega) rfl ?_));refine nV ?_;refine fW T rfl (bE T rfl rfl rfl rfl rfl rfl (by decide) rfl ?_))|(refine rg 3 (mW rfl (vV (nB jK rfl) (oC ?_))))|refine nZ ?_)
  simp only [List.length_nil,Nat.zero_add,List.nil_append]
  all_goals exact ⟨.inl rfl,[0,2],_,rfl,rfl,rfl,⟨.inr rfl,.inr rfl,trivial⟩,by decide,VK⟩
theorem JQ (l : List UInt8) (h0 : l ≠ []) (hl : l.length ≤ 100000000000) : bN Tryz.prog 77 [.ptr 0 0] [.cells [.ptr 0 0,.sl 1 0 l.length 1],.buf 5 l] (.s l) [.gone,.gone] := by
  have hpos : 0 < l.length := lS.2 h0;refine dC T Tryz.func77 rfl rfl rfl rfl ?_
  (repeat' (first|refine wS ?_|refine wR ?_|(refine rg 0 (aV ?_))|(refine rB (id := 1) 14 [[],[0],[0,1],[0,1,2],rN 4,[],[5],[5,6],[5,6,7],rM 5 4,rN 10] (rM 3 11) [[],[],[],[],[],rM 3 5,rM 3 5,rM 3 5,rM 3 5,rM 3 5,[]] [(10,1)] fK rfl (by decide +kernel) (eW rfl rfl rfl rfl (by exact eQ rfl) ?_);refine eW rfl rfl rfl rfl (by exact dQ rfl rfl) ?_;refine eW rfl rfl rfl rfl (by exact eE T rfl rfl rfl) ?_;refine eW rfl rfl rfl rfl (by exact bC T rfl rfl rfl rfl) ?_;refine eW rfl rfl rfl rfl (by exact U4 rfl (by omega)) ?_;refine eW rfl rfl rfl rfl (by exact eQ rfl) ?_;refine eW rfl rfl rfl rfl (by exact dQ rfl rfl) ?_;refine eW rfl rfl rfl rfl (by exact eE T rfl rfl rfl) ?_;refine eW rfl rfl rfl rfl (by exact bC T rfl rfl rfl rfl) ?_;refine eW rfl rfl rfl rfl (by exact Q7 T rfl rfl) ?_;refine TM rfl rfl rfl rfl (aU rfl) (by exact C2 WC WD rfl rfl rfl h0 (by omega) rfl) ?_;refine xO rfl rfl rfl (by exact rfl) ?_;refine aV ?_)|refine nZ ?_));all_goals exact ⟨.inl rfl,[0,1],_,rfl,rfl,rfl,⟨.inl rfl,.inl rfl,trivial⟩,by decide,XT⟩
end Go.Proofs.YtdiogjgohbbllaaGreatDoor
namespace Go.Proofs.YtdiogjgohbbllaaGreatDoor
open Go Go.Ab
section
variable {P : Program} {env : cJ} {h : Hp} {d : Option Nat} {ty : TypeId} {pos : String} {af : Array Edge} {g : Option (Nat × Bool)}
theorem mY {t t2 : TypeId} {x y : Operand} {a b : Int} (hx : evu env x = some (.i a)) (hy : evu env y = some (.i b)) (e : a < b) : bR P ⟨d,.binOp .lss t x y t2,ty,pos,af,g⟩ env h 0 (fun _ => .b true) (fun _ => []) := by
  have := bA (P := P) (d := d) (ty := ty) (pos := pos) (af := af) (g := g) (h := h) (t := t) (t2 := t2) hx hy;simpa [e] using this
theorem mZ {t t2 : TypeId} {x y : Operand} {a b : Int} (hx : evu env x = some (.i a)) (hy : evu env y = some (.i b)) (e : b ≤ a) : bR P ⟨d,.binOp .lss t x y t2,ty,pos,af,g⟩ env h 0 (fun _ => .b false) (fun _ => []) := by
  have := bA (P := P) (d := d) (ty := ty) (pos := pos) (af := af) (g := g) (h := h) (t := t) (t2 := t2) hx hy;simpa [show decide (a < b) = false from decide_eq_false (by omega)] using this
end
attribute [local irreducible] VC AW bR bN
set_option maxHeartbeats 4000000
def sY (n : Int) : Prop := -9223372036854775808 ≤ n ∧ n ≤ 9223372036854775807
theorem rS : ∀ (k u : Nat), u < 10 ^ (k + 1) → Go.Lib.nDigits u ≤ k + 1
  | 0,u,h => by rw [Go.Lib.nDigits_small (by simpa using h)];exact aQ _
  | k + 1,u,h => by
    by_cases hu : u < 10
    · rw [Go.Lib.nDigits_small hu];omega
    · rw [Go.Lib.nDigits_big hu];have := rS k (u / 10) (by rw [Nat.div_lt_iff_lt_mul (by decide)];rw [Nat.pow_succ] at h;exact h)
      omega
theorem AZ {n : Int} (h : sY n) : (Go.Lib.itoa n).length ≤ 21 := by
  obtain ⟨h0,h1⟩ := h;unfold Go.Lib.itoa;split
  · rw [List.length_cons,Go.Lib.decDigits_length];have := rS 19 n.natAbs (by have : (10 : Nat) ^ (19 + 1) = 100000000000000000000 := (by decide);omega)
    omega
  · rw [Go.Lib.decDigits_length];have := rS 19 n.toNat (by have : (10 : Nat) ^ (19 + 1) = 100000000000000000000 := (by decide);omega)
    omega
def eU (n : Int) : List UInt8 := Go.Lib.itoa n ++ [59]
theorem lA {n : Int} (h : sY n) : (eU n).length ≤ 22 := by have := AZ h;simp [eU];omega
theorem PW {n : Int} (h : sY n) : bN Tryz.prog 124 [.i n] [] (.s (Go.Lib.itoa n)) [] := by
  have hc := ME n h.1 h.2;refine dC T Tryz.func124 rfl rfl rfl rfl ?_
  (repeat' (first|refine wS ?_|refine wR ?_|(refine rg 0 (aV ?_))|(refine rg 1 (mW rfl (vV (kC (hc)) (aV ?_))))|refine nZ ?_));all_goals exact rQ
theorem EB {n : Int} (h : sY n) : bN Tryz.prog 110 [.i n] [] (.s (Go.Lib.itoa n)) [] := by
  have hc := PW h;refine dC T Tryz.func110 rfl rfl rfl rfl ?_
  (repeat' (first|refine wS ?_|refine wR ?_|(refine rg 0 (aV ?_))|(refine rg 1 (mW rfl (vV (kC (hc)) (aV ?_))))|refine nZ ?_));all_goals exact rQ
theorem tA {n : Int} (h : sY n) : bN Tryz.prog 76 [.i n] [] (.s (eU n)) [] := by
  have hc := EB h;have hl := AZ h;refine dC T Tryz.func76 rfl rfl rfl rfl ?_
  (repeat' (first|refine wS ?_|refine wR ?_|(refine rg 0 (aV ?_))|(refine rg 1 (mW rfl (vV (kC (hc)) (vV (xL rfl rfl (by simp only [aC,List.length_cons,List.length_nil];omega)) ?_)));refine aV ?_)|refine nZ ?_));all_goals exact rQ
end Go.Proofs.YtdiogjgohbbllaaGreatDoor
namespace Go.Or
open Go Go.Ab
theorem OG.start {ls : List Lo} {bs : List Bo} {ws : List Wt} {k : Nat} {left : List Bo} {N : List (Nat × List Tk)} {p : Nat} {X : Hp} {ord : List Int} {w : Wt} (h : Y0 ls bs ws k left N p X) (hw : 0 ≤ w.2.1 ∧ w.2.1 ≤ 20000) :
    OG left ord w.2.1 N p (X ++ [.gone] ++ [.arr [] 2]) 0 left [] w.2.1 (X ++ [AB.gone]).length := by
  have hnd := h.nd;simp only [aL,aR,not_or] at hnd;obtain ⟨⟨a1,a3⟩,a4,a5⟩ := hnd;have hpl := (aA.1 h.hp).1;have h0l := (aA.1 h.h0).1;have hnl : ∀ e,e ∈ N → e.1 < X.length := fun e he => by
    have h1 := h.hn e he;exact (aA.1 h1).1
  have hz : (X ++ [AB.gone]).length = X.length + 1 := by simp
  refine ⟨bM _,by simp,rfl,h.nn,fun b hb => rfl,hw,aQ _,bS (bS h.h0),bS (bS h.hp),h.hn.more fun e he b hb => bS (bS hb),cP,?_,vP (vP h.rf (fun b hb => .inl (bG.1 hb))) (vO rfl)⟩
  rw [hz];simp only [aL,aR,not_or];refine ⟨⟨a1,by omega,a3⟩,⟨by omega,a4⟩,fun hm => ?_,a5⟩
  obtain ⟨e,he,e1⟩ := aJ.1 hm;have := hnl e he;omega
theorem OG.fin {left0 : List Bo} {ord : List Int} {need0 : Int} {N : List (Nat × List Tk)} {p : Nat} {X : Hp} {j : Nat} {left : List Bo} {tk : List Tk} {need : Int} {q : Nat} (h : OG left0 ord need0 N p X j left tk need q)
    (hf : ∀ hj : j < ord.length,min need (cnt left ord[j]) = 0) : kJ ord left0 need0 = (tk,left,need) := by
  have heq := h.eq;rcases fJ j ord.length with hj | hj
  · rw [aS hj,kJ,if_pos (hf hj)] at heq;simpa using heq
  · rw [dJ hj] at heq;simpa [kJ] using heq
theorem Y0.next {ls : List Lo} {bs : List Bo} {ws : List Wt} {k : Nat} {left0 : List Bo} {N : List (Nat × List Tk)} {p : Nat} {X0 : Hp} (h : Y0 ls bs ws k left0 N p X0) (hk : k < ws.length)
    {X : Hp} {j : Nat} {left : List Bo} {tk : List Tk} {need : Int} {q : Nat} (g : OG left0 (rR ls left0 ws[k]) ws[k].2.1 N p X j left tk need q) (hf : kJ (rR ls left0 ws[k]) left0 ws[k].2.1 = (tk,left,need)) (hn : ¬ 0 < need) :
    Y0 ls bs ws (k + 1) left (N ++ [(q,tk)]) (X ++ [AB.arr [[AV.sl q 0 tk.length 2]] 1]).length ((X ++ [AB.arr [[AV.sl q 0 tk.length 2]] 1]).set p AB.gone ++ [AB.arr (kX (N ++ [(q,tk)])) 1]) := by
  have hnd := g.nd;simp only [aL,aR,not_or] at hnd;obtain ⟨⟨a1,a2,a3⟩,⟨a4,a5⟩,a6,a7⟩ := hnd;have hql := (aA.1 g.hq).1;have h0l := (aA.1 g.h0).1;have hnl : ∀ e,e ∈ N → e.1 < X.length := fun e he => by
    have h1 := g.hn e he;exact (aA.1 h1).1
  have hmem : ∀ e,e ∈ N → e.1 ∈ N.map (·.1) := fun e he => aJ.2 ⟨e,he,rfl⟩
  have hz : (X ++ [AB.arr [[AV.sl q 0 tk.length 2]] 1]).length = X.length + 1 := by simp
  have keep : ∀ {i : Nat} {b : AB},X[i]? = some b → i ≠ p → ((X ++ [AB.arr [[AV.sl q 0 tk.length 2]] 1]).set p AB.gone ++ [AB.arr (kX (N ++ [(q,tk)])) 1])[i]? = some b := fun hi h1 => bS (fZ h1 (bS hi));have heq := h.eq;rw [aS hk,pD,hf] at heq;dsimp only at heq;rw [if_neg hn] at heq;refine ⟨hk,?_,by rw [aC,h.nl];rfl,by rw [g.len,h.len],g.nn,fun b hb => by rw [g.lot b hb,h.lot b hb],keep g.h0 a1,?_,?_,?_,?_⟩
  · rw [heq];cases pD ls left (ws.drop (k + 1)) with
    | none => rfl
    | some t => simp
  · rw [hz];have e1 : ((X ++ [AB.arr [[AV.sl q 0 tk.length 2]] 1]).set p AB.gone).length = X.length + 1 := by simp
    rw [← e1];exact cP
  · intro e he;rcases bD.1 he with he | he
    · exact keep (g.hn e he) (fun e1 => a5 (e1 ▸ hmem e he))
    · rw [bG.1 he];exact keep g.hq (fun e => a4 e.symm)
  · rw [hz,cO];simp only [aL,aR,not_or,bD,dX,List.map_cons,List.map_nil,cG,or_false];refine ⟨⟨by omega,a3,a2⟩,⟨fun hm => ?_,by omega⟩,a7,⟨by simp,bB⟩,fun a ha b hb => ?_⟩
    · obtain ⟨e,he,e1⟩ := aJ.1 hm;have := hnl e he;omega
    · subst hb;exact fun e => a6 (e ▸ ha)
  · exact vP (DN (vP g.rf (vO rfl)) (.inl rfl)) (vO (SE _))
theorem FJ (N : List (Nat × List Tk)) (q : Nat) (tk : List Tk) : List.take N.length (List.drop 0 (kX N)) ++ [[AV.sl q 0 tk.length 2]] = kX (N ++ [(q,tk)]) := by
  rw [dI,aX (by simp)];simp
theorem FB {ws : List Wt} {k : Nat} (h : k < ws.length) : (bZ ws)[(k : Int).toNat]? = some [AV.i ws[k].1,AV.i ws[k].2.1,AV.i ws[k].2.2] := JC h
theorem yS {X : Hp} {a b c : AB} : ((X ++ [a]).set X.length b).set X.length c = X ++ [c] := by simp
theorem RD (l : List Int) : (AB.arr (fT l) 1).rf = true := aT.2 fun e he => by obtain ⟨i,_,rfl⟩ := aJ.1 he;rfl
theorem MF : ∀ l : List Int, AV.idfL (fT l).flatten = true
  | [] => rfl
  | x :: l => MF l
theorem xS {bs : List Bo} {j : Int} (h0 : 0 ≤ j) (h : j < bs.length) : (eR bs)[0 + j.toNat]? = some [AV.i (bs.getD j.toNat (0,0,0)).1,AV.i (cnt bs j),AV.i (bs.getD j.toNat (0,0,0)).2.2] := by
  rw [Nat.zero_add];exact V7 h0 h
theorem GA {bs : List Bo} {j n : Int} : (eR bs).set (0 + j.toNat) [AV.i (bs.getD j.toNat (0,0,0)).1,AV.i (cnt bs j - n),AV.i (bs.getD j.toNat (0,0,0)).2.2] = eR (qM bs j n) := by
  rw [Nat.zero_add];exact MV (x := ((bs.getD j.toNat (0,0,0)).1,cnt bs j - n,(bs.getD j.toNat (0,0,0)).2.2))
theorem Y0.fail {ls : List Lo} {bs : List Bo} {ws : List Wt} {k : Nat} {left0 : List Bo} {N : List (Nat × List Tk)} {p : Nat} {X0 : Hp} (h : Y0 ls bs ws k left0 N p X0) (hk : k < ws.length)
    {left : List Bo} {tk : List Tk} {need : Int} (hf : kJ (rR ls left0 ws[k]) left0 ws[k].2.1 = (tk,left,need)) (hn : 0 < need) : pD ls bs ws = none := by
  have heq := h.eq;rw [aS hk,pD,hf] at heq;dsimp only at heq;rw [if_pos hn] at heq;exact heq
theorem QL {ws : List Wt} (h : ws.any sA = false) {w : Wt} (hw : w ∈ ws) : 0 ≤ w.2.1 ∧ w.2.1 ≤ 20000 := by
  have := nI.1 h w hw;unfold sA at this;simp only [nE,decide_eq_true_eq,not_or] at this;omega
end Go.Or
namespace Go.Proofs.YtdiogjgohbbllaaGreatDoor
open Go Go.Ab Go.Or
attribute [local irreducible] VC AW bR bN eS
set_option maxHeartbeats 4000000
section
variable {P : Program} {env : cJ} {h : Hp} {d : Option Nat} {ty : TypeId} {pos : String} {af : Array Edge} {g : Option (Nat × Bool)}
theorem jW {t t2 : TypeId} {x y : Operand} {a b : Int} (hx : evu env x = some (.i a)) (hy : evu env y = some (.i b)) (hab : b < a) : bR P ⟨d,.binOp .gtr t x y t2,ty,pos,af,g⟩ env h 0 (fun _ => .b true) (fun _ => []) := by
  have := gJ (P := P) (env := env) (h := h) (d := d) (ty := ty) (pos := pos) (af := af) (g := g) (t := t) (t2 := t2) hx hy
  rwa [decide_eq_true hab] at this
theorem jX {t t2 : TypeId} {x y : Operand} {a b : Int} (hx : evu env x = some (.i a)) (hy : evu env y = some (.i b)) (hab : a ≤ b) : bR P ⟨d,.binOp .gtr t x y t2,ty,pos,af,g⟩ env h 0 (fun _ => .b false) (fun _ => []) := by
  have := gJ (P := P) (env := env) (h := h) (d := d) (ty := ty) (pos := pos) (af := af) (g := g) (t := t) (t2 := t2) hx hy
  rwa [decide_eq_false (IY.2 hab)] at this
end
theorem SK (ls : List Lo) (bs : List Bo) (ws : List Wt) (hl : ls.length ≤ 1000000) (hb : bs.length ≤ 20) (hk : Y3 ls bs) (hw : ws.length ≤ 1000) (hc : ∀ b : Int,0 ≤ b → 0 ≤ cnt bs b ∧ cnt bs b ≤ 20000) :
    eS Tryz.prog 20 [.rowE (jF ls) 3,.rowE (eR bs) 3,.rowE (bZ ws) 3] [] (WJ ls bs ws) := by
  have hbb := gX bs;have hww := gV ws;have hh := FS (l := ws) (F := 52) (caps := []) (p := sA) (by omega) rfl fun x _ => UD x
  refine jO T Tryz.func20 rfl rfl rfl rfl ?_;cases hbad : ws.any sA with
  | true =>
    rw [hbad] at hh
    (repeat' (first|refine wS ?_|refine wR ?_|refine wT ?_|(refine rg 0 (oC ?_))|(refine rg 1 (mW rfl (vV (kC (hh)) ?_)))|(refine rg 2 (oC ?_))|refine nZ ?_));all_goals exact ⟨.inl rfl,_,rfl,.nils,[],by unfold pZ;rw [if_pos hbad];rfl,.inl ⟨rfl,by unfold pZ;rw [if_pos hbad],rfl⟩,rfl,fun b hb => by cases hb⟩
  | false =>
    rw [hbad] at hh;have hpf : pZ ls bs ws = match pD ls bs ws with
      | none => (22,[])
      | some t => (0,t) := by unfold pZ;rw [if_neg (by rw [hbad];simp)];rfl
    (repeat' (first|refine wS ?_|refine wK ?_|refine wU ?_|(refine rg 0 (oC ?_))|(refine rg 1 (mW rfl (vV (kC (hh)) ?_)))|(refine rg 3 (mW rfl (qW T rfl (cY (by exact U8 T rfl rfl rfl rfl (by omega) (by omega) (by dsimp only;omega) (by omega) (by decide)) rfl ?_)));refine aV ?_)|refine nZ ?_));rw [bK]
    (repeat' (first|refine wS ?_|(refine rg 4 (fF rfl (OJ T rfl rfl rfl rfl rfl rfl rfl (.row (lB bs)) (ES bs) (by simp) rfl rfl ?_)))|(refine rg 5 (aV ?_))|refine nZ ?_));refine I7 9 1 rfl (by decide) ?_
    (repeat' (first|refine wB ?_|(refine rg 6 (mW rfl (qW T rfl (mV ?_))))|refine nZ ?_));refine iT (X := {x : Nat × List Bo × List (Nat × List Tk) × Nat × Hp // Y0 ls bs ws x.1 x.2.1 x.2.2.1 x.2.2.2.1 x.2.2.2.2}) (fun x => [(0, .rowE (jF ls) 3), (8, .sl 0 0 (eR bs).length 3), (9, .sl x.1.2.2.2.1 0 x.1.1 1), (25, .rowE (bZ ws) 3), (26, .i (bZ ws).length), (27, .i (x.1.1 : Int))]) (fun x => x.1.2.2.2.2) (fun x => ws.length - x.1.1)
      ⟨(0,bs,[],1,[.arr (eR bs) 3,.arr [] 1]),⟨bM _,by simp,rfl,rfl,hc,fun b hb => rfl,rfl,rfl,fun e he => (by cases he),(by simp),vP (vO (DO bs)) (vO rfl)⟩⟩ (mC.of rfl (by repeat first|exact trivial|refine ⟨rfl,?_⟩)) ?_
    rintro ⟨⟨k,left,N,p,X⟩,ho⟩;dsimp only at ho ⊢;have hnl := ho.nl;subst hnl;by_cases hlt : N.length < ws.length
    · have hg := FB hlt;have hwb := QL hbad (aI hlt);have hin := OG.start (ord := rR ls left ws[N.length]) (w := ws[N.length]) ho hwb;have hlk : Y3 ls left := fun i hi => by
        have h1 := ho.lot i (by omega)
        rw [bK] at h1;rw [h1];exact hk i (by rw [← ho.len];exact hi)
      have hor := PD ls left ws[N.length] hl (by rw [ho.len];exact hb) hlk
      have hom : ∀ i,i ∈ rR ls left ws[N.length] → 0 ≤ i ∧ i < left.length := fun i hi => (xB.1 hi).1;have hol := KQ (ls := ls) (bs := left) (w := ws[N.length]);have hleft := ho.len;have nx := @Y0.next ls bs ws N.length left N p X ho hlt
      have fl := @Y0.fail ls bs ws N.length left N p X ho hlt;generalize ws[N.length] = w at *;generalize rR ls left w = ord at *
      (repeat' (first|refine wS ?_|refine wB ?_|refine wK ?_|refine wT ?_|(refine rg 7 (vV (mY rfl rfl (by omega)) ?_))|(refine rg 8 (vV (ix T rfl (by omega) (vG ws) hg) (lW T rfl (cY (cS T rfl) rfl (bE T rfl rfl rfl rfl rfl rfl (by decide) (nH cP rfl rfl) ?_)))))|refine nZ ?_));refine gP 11 (cs := [.i w.1,.i w.2.1,.i w.2.2]) rfl (gA (by simp)) rfl ?_
      rw [yS]
      (repeat' (first|refine wS ?_|(refine rg 9 (aV ?_))|refine nZ ?_));refine I7 12 2 rfl (by decide) ?_
      have h00 := hin.h0
      (repeat' (first|refine wS ?_|refine wB ?_|(refine rg 10 (jH T rfl (aV ?_)))|(refine rg 11 (fF rfl (lW T rfl (vV (by exact nW rfl rfl hor (.cons (.row _ _ _) (.cons (rJ h00 (by simp;omega) (V6 _)) (.cons (E2 _ rfl) .nil))) (qZ _).symm (RD _) (MF _)) ?_)));refine qW T rfl (mV ?_))|refine nZ ?_));refine iT (X := {x : Nat × List Bo × List Tk × Int × Nat × Hp // OG left ord w.2.1 N p x.2.2.2.2.2 x.1 x.2.1 x.2.2.1 x.2.2.2.1 x.2.2.2.2.1}) (fun x => [(0, .rowE (jF ls) 3), (8, .sl 0 0 (eR bs).length 3), (9, .sl p 0 N.length 1), (12, .sl x.1.2.2.2.2.1 0 x.1.2.2.1.length 2), (13, .i x.1.2.2.2.1), (25, .rowE (bZ ws) 3), (26, .i (bZ ws).length), (27, .i (N.length : Int)), (36, .rowE (fT ord) 1), (37, .i (fT ord).length), (38, .i (x.1.1 : Int))]) (fun x => x.1.2.2.2.2.2) (fun x => ord.length - x.1.1)
        ⟨(0,left,[],w.2.1,_,_),hin⟩ (mC.of rfl (by repeat first|exact trivial|refine ⟨rfl,?_⟩)) ?_
      clear hin hor h00 hg;rintro ⟨⟨j,left',tk,need,q,Y⟩,g⟩;dsimp only at g ⊢;have hnu := qZ ord;have hll := g.len;have hn0 := g.n0;have htl := g.tl;by_cases hcon : ∃ hj : j < ord.length,min need (cnt left' ord[j]) ≠ 0
      · obtain ⟨hj,hm⟩ := hcon;have gn := g.next hj hom hm
        obtain ⟨i0,i1⟩ := hom _ (aI hj);have hgo := DT hj;have hbo := xS (bs := left') i0 (by omega)
        have hcc := g.nn _ i0;have g0 := g.h0;have gq := g.hq;have hds := GA (bs := left') (j := ord[j]) (n := min need (cnt left' ord[j]));have hnd := g.nd;simp only [aL,aR,not_or] at hnd;have n0q : 0 ≠ q := fun e => hnd.1.2.1 e
        have hta := JL tk (ord[j],min need (cnt left' ord[j]));dsimp only at hta;generalize ord[j] = i at *;generalize (left'.getD i.toNat (0,0,0)).1 = x1 at *;generalize (left'.getD i.toNat (0,0,0)).2.2 = x3 at *;generalize qM left' i (min need (cnt left' i)) = left2 at *;generalize cnt left' i = c at *
        (repeat' (first|refine wS ?_|refine wB ?_|refine wK ?_|refine wT ?_|(refine wC rfl ?_ ?_<;>(intro hb;(try simp only [nm] at hb);try (exfalso;omega)))|(refine rg 12 (vV (mY rfl rfl (by omega)) ?_))|(refine rg 13 (vV (ix T rfl (by omega) (DS ord) hgo) (vV (bC T rfl rfl rfl rfl) (aV ?_))))|(refine rg 14 (fF rfl (mW rfl (vV (by exact cI T rfl rfl rfl rfl rfl (by omega) (by omega)) ?_)));refine fW T rfl (vV (by exact bC T rfl rfl (eF g0 hbo) rfl) ?_);refine vV (rV rfl rfl) (aV ?_))|(refine rg 15 (mW rfl (vV (cT rfl rfl) ?_)))|(refine rg 16 (fF rfl (mW rfl (vV (by exact iG T rfl rfl rfl rfl) ?_)));refine cY (by exact cF T rfl rfl (by decide) (by decide) rfl rfl rfl) rfl ?_;refine hY T rfl rfl rfl rfl rfl (bS gq) (by simp) (kQ.whole cP rfl) rfl (by simp;omega) (by simp;omega) rfl ?_;refine aV ?_)|(refine rg 17 (fF rfl (vV (by exact cI T rfl rfl rfl rfl rfl (by omega) (by omega)) ?_));refine fW T rfl (vV (by exact bC T rfl rfl (eF (bS (fZ n0q (bS g0))) hbo) rfl) ?_);refine mW rfl (vV (gN rfl rfl (by omega) (by omega)) (vV (by exact cI T rfl rfl rfl rfl rfl (by omega) (by omega)) ?_));refine fW T rfl (bE T rfl rfl rfl rfl rfl rfl (by decide) (oZ (bS (fZ n0q (bS g0))) hbo rfl rfl) ?_))|(refine rg 18 (fF rfl (vV (gN rfl rfl (by omega) (by omega)) (aV ?_))))|(refine rg 19 (vV (dS rfl rfl (by omega) (by omega)) (mV ?_)))|refine nZ ?_));all_goals try (exfalso;omega)
        all_goals exact ⟨⟨(j + 1,left2,tk ++ [(i,min need c)],need - min need c,_,_),gn⟩,by dsimp only;omega,mC.of (by dsimp only;rw [← hta,← hds];rfl) ⟨rfl,rfl,rfl,by dsimp only;rw [show (tk ++ [(i,min need c)]).length = tk.length + 1 by simp];rfl,rfl,rfl,rfl,rfl,rfl,rfl,rfl,trivial⟩⟩
      · have hf := g.fin fun hj => Classical.byContradiction fun e => hcon ⟨hj,e⟩
        have nx2 := nx (need := need) g hf;have fl2 := fl (need := need) hf;have oa := FJ N q tk;have gp := g.hp;have hpf2 := hpf;clear nx fl;by_cases hj : j < ord.length
        · have hm : min need (cnt left' ord[j]) = 0 := Classical.byContradiction fun e => hcon ⟨hj,e⟩
          obtain ⟨i0,i1⟩ := hom _ (aI hj);have hgo := DT hj;have hbo := xS (bs := left') i0 (by omega)
          have g0 := g.h0;generalize ord[j] = i at *;generalize (left'.getD i.toNat (0,0,0)).1 = x1 at *;generalize (left'.getD i.toNat (0,0,0)).2.2 = x3 at *;generalize cnt left' i = c at *
          (repeat' (first|refine wS ?_|refine wB ?_|refine wK ?_|refine wE ?_|refine wT ?_|(refine wC rfl ?_ ?_<;>(intro hb;(try simp only [nm] at hb);try (exfalso;omega)))|(refine rg 12 (vV (mY rfl rfl (by omega)) ?_))|(refine rg 13 (vV (ix T rfl (by omega) (DS ord) hgo) (vV (bC T rfl rfl rfl rfl) (aV ?_))))|(refine rg 14 (fF rfl (mW rfl (vV (by exact cI T rfl rfl rfl rfl rfl (by omega) (by omega)) ?_)));refine fW T rfl (vV (by exact bC T rfl rfl (eF g0 hbo) rfl) ?_);refine vV (rV rfl rfl) (aV ?_))|(refine rg 15 (mW rfl (vV (cT rfl rfl) ?_)))|refine nZ ?_));all_goals try (exfalso;omega)
          all_goals
            by_cases hn : 0 < need
            · rw [fl2 hn] at hpf2
              (repeat' (first|refine wS ?_|refine wR ?_|refine wT ?_|(refine rg 20 (mW rfl (vV (jW rfl rfl (by omega)) ?_)))|(refine rg 21 (oC ?_))|refine nZ ?_));all_goals try (exfalso;omega)
              all_goals exact ⟨.inl rfl,_,rfl,.nils,[],by rw [hpf2];rfl,.inl ⟨rfl,by rw [hpf2],rfl⟩,rfl,g.rf⟩
            · have no := nx2 hn
              (repeat' (first|refine wK ?_|refine wU ?_|(refine rg 20 (mW rfl (vV (jX rfl rfl (by omega)) ?_)))|(refine rg 22 (fF rfl (cY (by exact cF T rfl rfl (by decide) (by decide) rfl rfl rfl) rfl ?_));refine hY T rfl rfl rfl rfl rfl (bS gp) (by simp) (kQ.whole cP rfl) rfl (by simp;omega) (by simp;omega) rfl ?_;refine aV ?_)|(refine rg 23 (vV (dS rfl rfl (by omega) (by omega)) (mV ?_)))|refine nZ ?_));all_goals try (exfalso;omega)
              all_goals exact ⟨⟨(N.length + 1,left',N ++ [(q,tk)],_,_),no⟩,by dsimp only;omega,mC.of (by dsimp only;rw [← oa];rfl) (by dsimp only;(repeat (first | exact trivial | refine ⟨rfl,?_⟩)))⟩
        · (repeat' (first|refine wS ?_|refine wE ?_|refine jY rfl ?_|(refine rg 12 (vV (mZ rfl rfl (by omega)) ?_))|(refine nZ ?_)));all_goals try (exfalso;omega)
          all_goals
            by_cases hn : 0 < need
            · rw [fl2 hn] at hpf2
              (repeat' (first|refine wS ?_|refine wR ?_|refine wT ?_|(refine rg 20 (mW rfl (vV (jW rfl rfl (by omega)) ?_)))|(refine rg 21 (oC ?_))|refine nZ ?_));all_goals try (exfalso;omega)
              all_goals exact ⟨.inl rfl,_,rfl,.nils,[],by rw [hpf2];rfl,.inl ⟨rfl,by rw [hpf2],rfl⟩,rfl,g.rf⟩
            · have no := nx2 hn
              (repeat' (first|refine wK ?_|refine wU ?_|(refine rg 20 (mW rfl (vV (jX rfl rfl (by omega)) ?_)))|(refine rg 22 (fF rfl (cY (by exact cF T rfl rfl (by decide) (by decide) rfl rfl rfl) rfl ?_));refine hY T rfl rfl rfl rfl rfl (bS gp) (by simp) (kQ.whole cP rfl) rfl (by simp;omega) (by simp;omega) rfl ?_;refine aV ?_)|(refine rg 23 (vV (dS rfl rfl (by omega) (by omega)) (mV ?_)))|refine nZ ?_));all_goals try (exfalso;omega)
              all_goals exact ⟨⟨(N.length + 1,left',N ++ [(q,tk)],_,_),no⟩,by dsimp only;omega,mC.of (by dsimp only;rw [← oa];rfl) (by dsimp only;(repeat (first | exact trivial | refine ⟨rfl,?_⟩)))⟩
    · have heq := ho.eq;rw [dJ (by omega)] at heq
      have hpn : pD ls bs ws = some (N.map (·.2)) := by rw [heq];simp [pD]
      rw [hpn] at hpf;have hnd := ho.nd
      (repeat' (first|refine wS ?_|refine wR ?_|refine wE ?_|refine wU ?_|(refine rg 7 (vV (mZ rfl rfl (by omega)) ?_))|(refine rg 24 (mW rfl (oC ?_)))|refine nZ ?_));all_goals try (exfalso;omega)
      all_goals exact ⟨.inl rfl,_,rfl,.sl p 0 N.length 1,p :: N.map (·.1),by rw [hpf];rfl,.inr ⟨p,N,rfl,ho.hp,ho.hn,by rw [hpf],rfl,(aL.1 hnd).2⟩,rfl,ho.rf⟩
end Go.Proofs.YtdiogjgohbbllaaGreatDoor
namespace Go.Or
open Go Go.Ab
theorem oL (tk : List (List Tk)) : ∀ e,e ∈ C8 tk → e.length = 1 := by intro e he;obtain ⟨n,_,rfl⟩ := aJ.1 he;rfl
theorem nK (tk : List (List Tk)) : (C8 tk).length = tk.length := bI _
theorem C7 {tk : List (List Tk)} {k : Nat} (h : k < tk.length) : (C8 tk)[(k : Int).toNat]? = some [AV.rowE (eO tk[k]) 2] := by simp [h]
theorem uV (bk : Bk) : ∀ e,e ∈ uB bk → e.length = 4 := by intro e he;obtain ⟨n,_,rfl⟩ := aJ.1 he;rfl
theorem mI (bk : Bk) : (uB bk).length = bk.length := bI _
theorem D7 {bk : Bk} {k : Nat} (h : k < bk.length) : (uB bk)[(k : Int).toNat]? = some (CU bk[k]) := by simp [h]
def DC (tk : List (List Tk)) (k : Nat) : List AV := match tk.flatten[k]? with
  | some t => [.agg [.i t.1,.i t.2]]
  | none => []
theorem qP {tk : List (List Tk)} {k : Nat} (h : k < tk.flatten.length) : DC tk k = [.agg [.i tk.flatten[k].1,.i tk.flatten[k].2]] := by
  unfold DC;rw [aB h]
theorem rA {α : Type} {tk : List (List α)} {i : Nat} (hi : i < tk.length) : (tk.take (i + 1)).flatten.length = (tk.take i).flatten.length + tk[i].length := by
  rw [aY hi,gQ,aC];simp
theorem FV {α : Type} {tk : List (List α)} {i j : Nat} (hi : i < tk.length) (hj : j < tk[i].length) : ∃ h : (tk.take i).flatten.length + j < tk.flatten.length,tk.flatten[(tk.take i).flatten.length + j] = tk[i][j] := by
  have e : tk.flatten = (tk.take i).flatten ++ (tk[i] ++ (tk.drop (i + 1)).flatten) := by
    conv => lhs;rw [← bX i tk]
    rw [gQ,aS hi,bJ]
  have hl : (tk.take i).flatten.length + j < tk.flatten.length := by
    rw [e,aC,aC];omega
  refine ⟨hl,?_⟩;apply Option.some.inj;rw [← aB hl,e,aF (by omega),Nat.add_sub_cancel_left,aG hj,aB hj]
theorem GS {l : List Tk} {b : Int} {k : Nat} (h : k < l.length) : eD (l.take (k + 1)) b = eD (l.take k) b + (if l[k].1 = b then l[k].2 else 0) := by
  rw [aY h,iM];simp [eD]
def RS (l : List Tk) : Prop := ∀ (b : Int) (k : Nat),0 ≤ eD (l.take k) b ∧ eD (l.take k) b ≤ 1000000000000
def RT (bk : Bk) : Prop := (∀ o,o ∈ bk → RS o.tk.flatten) ∧ ∀ (b : Int) (k : Nat),0 ≤ lU (bk.take k) b ∧ lU (bk.take k) b ≤ 1000000000000
theorem HD {bk : Bk} {b : Int} {k : Nat} (h : k < bk.length) : lU (bk.take (k + 1)) b = lU (bk.take k) b + eD bk[k].tk.flatten b := by
  have e : ∀ (l : Bk) (o : Od),lU (l ++ [o]) b = lU l b + eD o.tk.flatten b := fun l o => by
    unfold lU gR;rw [fB,iM];simp
  rw [aY h,e]
end Go.Or
namespace Go.Proofs.YtdiogjgohbbllaaGreatDoor
open Go Go.Ab Go.Or
attribute [local irreducible] VC AW bR bN eS AY VY B8
set_option maxHeartbeats 4000000
theorem XU : ∀ i : Nat,i < 2 → ([0,1] : List Nat)[i]? = some i := by decide
theorem NK (o : Od) (h1 : o.tk.length ≤ 1000000) (h2 : ∀ l,l ∈ o.tk → l.length ≤ 1000000) :
    B8 Tryz.prog 118 [] [.pr [.pr (CU o) 0] 0] [] (DC o.tk) o.tk.flatten.length := by
  have hla := nK o.tk;refine WH T Tryz.func118 rfl rfl rfl rfl ?_;intro J A y hJ hy
  (repeat' (first|(first|(refine I5 ?_)|(refine I6 ?_))|(((refine vD hJ (jI (id := 0) ?_)));(all_goals (refine lV T ?_;refine nV ?_;refine MH T ?_;(refine qV T ?_);refine mV ?_)))|refine nZ ?_));refine GF (X := {i : Nat // i ≤ o.tk.length}) (fun i => [(0,.clo (.yield y) [] []),(10,pS o.tk),(11,.i (C8 o.tk).length),(12,.i i.1)]) (fun _ => []) (fun i => ((o.tk.take i.1).flatten.length,false)) (fun i => o.tk.length - i.1) ⟨0,bM _⟩ rfl (rL []) ?_
  rintro ⟨i,hi⟩;dsimp only;by_cases hlt : i < o.tk.length
  · have ga := C7 hlt;have hlm := h2 _ (aI hlt);have hft := rA hlt;have hfa := fun (j : Nat) (hj : j < o.tk[i].length) => FV hlt hj;generalize o.tk[i] = l at *;have hlb := oR l
    (repeat' (first|(first|(refine I5 ?_)|(refine I6 ?_)|(refine GD ?_))|((refine D8 rfl (fun hb=>?_) (fun hb=>?_)<;>(((try simp only [nm] at hb);try ((exfalso;omega);done)))))|(((refine vD hJ (jI (id := 1) ?_)));(all_goals (refine vV (bA rfl rfl) ?_)))|(((refine vD hJ (jI (id := 2) ?_)));(all_goals (refine vV (ix T rfl (by omega) (oL _) ga) ?_;refine lV T ?_;refine aV ?_)))|(((refine vD hJ (jI (id := 3) ?_)));(all_goals (refine mV ?_;(refine qV T ?_);refine mV ?_)))|refine nZ ?_));all_goals try (exfalso;omega)
    refine GF (X := {j : Nat // j ≤ l.length}) (fun j => [(0,.clo (.yield y) [] []),(10,pS o.tk),(11,.i (C8 o.tk).length),(12,.i i),(16,.rowE (eO l) 2),(17,.i (eO l).length),(18,.i j.1)]) (fun _ => []) (fun j => ((o.tk.take i).flatten.length + j.1,false)) (fun j => l.length - j.1) ⟨0,bM _⟩ rfl (rL []) ?_;rintro ⟨j,hj⟩;dsimp only;by_cases hjl : j < l.length
    · have gb := S6 hjl;obtain ⟨hk,he⟩ := hfa j hjl;have hit := qP hk;rw [he] at hit;generalize l[j] = z at *
      (repeat' (first|(first|(refine I5 ?_)|(refine I6 ?_)|(refine GD ?_)|(refine UF ?_))|((refine D8 rfl (fun hb=>?_) (fun hb=>?_)<;>(((try simp only [nm] at hb);try ((exfalso;omega);done)))))|(((refine vD hJ (jI (id := 4) ?_)));(all_goals (refine vV (bA rfl rfl) ?_)))|(((refine vD hJ (jI (id := 5) ?_)));(all_goals (refine vV (ix T rfl (by omega) (vJ _) gb) ?_;refine lV T ?_;refine cY (cS T rfl) rfl ?_;refine bE T rfl rfl rfl rfl rfl rfl (by decide) rfl ?_)))|(((refine IJ (id := 6) ?_));((refine RZ 2 hJ ?_));(dsimp only [List.take,List.drop]);(all_goals (refine mV ?_;refine lV T ?_;refine oY ?_;refine JF hJ hy rfl rfl rfl hk hit rfl ?_));(all_goals (intro yes));(all_goals (refine UW hJ ?_;refine vV (eI rfl) ?_;refine C6 (by ((dsimp only [List.nil_append,List.cons_append,List.append_nil,List.length_cons,List.length_nil,List.set_cons_zero,List.set_cons_succ,List.map_cons,List.map_nil,gM,fC,lK,oB,GR,yH,M0,L8,L7,L9,yG,yJ,yE,yI,Nat.zero_add,Nat.add_zero,Nat.reduceAdd,Bool.not_true,Bool.not_false];done))) ?_)))|(((refine vD hJ (jI (id := 7) ?_)));(all_goals (refine vV (dS rfl rfl (by omega) (by omega)) ?_;refine mV ?_)))|refine nZ ?_));all_goals first | (exfalso;omega) | skip
      · exact ⟨.inl rfl,fun h => (by first | (subst hb;cases h) | (cases h;done)),[],rfl⟩
      · obtain rfl := hb;exact ⟨⟨j + 1,hjl⟩,by dsimp only;omega,rfl,rL []⟩
    · (repeat' (first|(first|(refine I5 ?_)|(refine GG ?_))|((refine D8 rfl (fun hb => ?_) (fun hb => ?_) <;> (((try simp only [nm] at hb);try ((exfalso;omega);done)))))|(((refine vD hJ (jI (id := 4) ?_)));(all_goals (refine vV (bA rfl rfl) ?_)))|(((refine vD hJ (jI (id := 8) ?_)));(all_goals (refine vV (dS rfl rfl (by omega) (by omega)) ?_;refine mV ?_)))|(refine C6 (by ((dsimp only [List.nil_append,List.cons_append,List.append_nil,List.length_cons,List.length_nil,List.set_cons_zero,List.set_cons_succ,List.map_cons,List.map_nil,gM,fC,lK,oB,GR,yH,M0,L8,L7,L9,yG,yJ,yE,yI,Nat.zero_add,Nat.add_zero,Nat.reduceAdd,Bool.not_true,Bool.not_false];done))) ?_)));all_goals try (exfalso;omega)
      obtain rfl : j = l.length := by omega
      all_goals exact ⟨⟨i + 1,hlt⟩,by dsimp only;omega,by dsimp only;rw [hft],rL []⟩
  · (repeat' (first|(first|(refine I5 ?_)|(refine GG ?_))|((refine D8 rfl (fun hb => ?_) (fun hb => ?_) <;> (((try simp only [nm] at hb);try ((exfalso;omega);done)))))|(((refine vD hJ (jI (id := 1) ?_)));(all_goals (refine vV (bA rfl rfl) ?_)))|(refine C6 (by ((dsimp only [List.nil_append,List.cons_append,List.append_nil,List.length_cons,List.length_nil,List.set_cons_zero,List.set_cons_succ,List.map_cons,List.map_nil,gM,fC,lK,oB,GR,yH,M0,L8,L7,L9,yG,yJ,yE,yI,Nat.zero_add,Nat.add_zero,Nat.reduceAdd,Bool.not_true,Bool.not_false];done))) ?_)));all_goals try (exfalso;omega)
    obtain rfl : i = o.tk.length := by omega
    exact ⟨.inr rfl,fun _ => by rw [dY],[],rfl⟩
theorem RQ (o : Od) : bN Tryz.prog 99 [.pr (CU o) 0] [] (.clo (.func 118) [] [.pr [.pr (CU o) 0] 0]) [] := by
  refine EW rfl ?_;refine dC T Tryz.func99 rfl rfl rfl rfl ?_
  (repeat' (first|refine wS ?_|refine wR ?_|(refine rg 0 (cY (fG rfl rfl) rfl (aV ?_)))|(refine rg 1 (vV (by exact nU rfl rfl) ?_);refine aV ?_)|refine nZ ?_));exact ⟨.inl rfl,[0],_,rfl,rfl,rfl,⟨.inr rfl,trivial⟩,by decide,nP _⟩
theorem MD (o : Od) (body : Int) (h1 : o.tk.length ≤ 1000000) (h2 : ∀ l,l ∈ o.tk → l.length ≤ 1000000) (hs : RS o.tk.flatten) :
    bN Tryz.prog 62 [.pr (CU o) 0,.i body] [] (.i (eD o.tk.flatten body)) [] := by
  have hal := RQ o;have hit := NK o h1 h2;refine dC T Tryz.func62 rfl rfl rfl rfl ?_
  (repeat' (first|refine wS ?_|refine wB ?_|(refine rg 0 (cY (fG rfl rfl) rfl (aV ?_)))|(refine rg 1 (cY (cS T rfl) rfl (bE T rfl rfl rfl rfl rfl rfl (by decide) rfl ?_)))|(refine rg 2 (mW rfl (vV (kC (hal)) ?_)))|refine nZ ?_));refine CC [] [0,1] [(3,.ptr 0 0),(5,.ptr 1 0)] (fun k => [.cells [.i body],.cells [.i (eD (o.tk.flatten.take k) body)]]) 2 rfl hit rfl rfl rfl trivial bB rfl (by repeat first|exact trivial|refine ⟨rfl,?_⟩) ⟨.inr rfl,.inr rfl,trivial⟩ (by decide) (nP _) (by simp) (bM _) (aU rfl) rfl (by decide) (fun m hm => by rw [qP hm];exact ⟨rfl,rfl⟩) ?_ ?_
  · intro k hk;rw [qP hk];have hst := GS (b := body) hk;have hb1 := hs body k;have hb2 := hs body (k + 1);generalize o.tk.flatten[k] = t at *;obtain ⟨tb,tn⟩ := t;dsimp only at *;have hn0 : tb = body → eD (o.tk.flatten.take (k + 1)) body = eD (o.tk.flatten.take k) body + tn := fun e => by rw [hst,if_pos e]
    have hn1 : tb ≠ body → eD (o.tk.flatten.take (k + 1)) body = eD (o.tk.flatten.take k) body := fun e => by rw [hst,if_neg e];omega
    clear hst;generalize eD (o.tk.flatten.take k) body = s0 at *;generalize hs1 : eD (o.tk.flatten.take (k + 1)) body = s1 at *
    (repeat' (first|(refine rg 3 (cY (cS T rfl) rfl (bE T rfl rfl rfl rfl rfl rfl (by decide) rfl ?_)))|refine nZ ?_));refine ⟨rfl,?_⟩
    by_cases hbd : tb = body
    · have e0 := hn0 hbd;subst e0
      (repeat' (first|refine wS ?_|refine wB ?_|(refine wC rfl ?_ ?_<;>(intro hb;(try simp only [nm] at hb);try (exfalso;omega)))|(refine rg 4 (jH T rfl (lW T rfl (vV (cT rfl rfl) ?_))))|(refine rg 5 (lW T rfl (jH T rfl (vV (dS rfl rfl (by omega) (by omega)) (bE T rfl rfl rfl rfl rfl rfl (by decide) rfl ?_)))))|refine nZ ?_));all_goals try (exfalso;omega)
      all_goals
        show W9 _ _ _ _ [AB.cells [AV.i body],AB.cells [AV.i (eD (o.tk.flatten.take (k + 1)) body)]];rw [hs1];exact ⟨[0,1],rfl,trivial,⟨.inr rfl,.inr rfl,trivial⟩,by decide,XU⟩
    · have e0 := hn1 hbd;subst e0
      (repeat' (first|refine wS ?_|refine wB ?_|refine wK ?_|(refine wC rfl ?_ ?_<;>(intro hb;(try simp only [nm] at hb);try (exfalso;omega)))|(refine rg 4 (jH T rfl (lW T rfl (vV (cT rfl rfl) ?_))))|refine nZ ?_));all_goals try (exfalso;omega)
      all_goals
        show W9 _ _ _ _ [AB.cells [AV.i body],AB.cells [AV.i (eD (o.tk.flatten.take (k + 1)) body)]];rw [hs1];exact ⟨[0,1],rfl,trivial,⟨.inr rfl,.inr rfl,trivial⟩,by decide,XU⟩
  · rw [dY]
    (repeat' (first|refine wS ?_|refine wR ?_|(refine rg 6 (lW T rfl (aV ?_)))|refine nZ ?_));all_goals exact rQ
theorem F5 (bk : Bk) (body : Int) (hl : bk.length ≤ 1000000) (h1 : ∀ o,o ∈ bk → o.tk.length ≤ 1000000 ∧ ∀ l,l ∈ o.tk → l.length ≤ 1000000) (hs : RT bk) :
    bN Tryz.prog 26 [FI bk,.i body] [] (.i (lU bk body)) [] := by
  have hbl := mI bk;refine dC T Tryz.func26 rfl rfl rfl rfl ?_
  (repeat' (first|refine wS ?_|refine wB ?_|(refine rg 0 (aV ?_))|(refine rg 1 (aV ?_))|(refine rg 2 (mW rfl (nV ?_));refine jH T rfl (qW T rfl (mV ?_)))|refine nZ ?_));refine eX (X := {k : Nat // k ≤ bk.length}) (fun k => [(0,FI bk),(1,.i body),(5,.i (lU (bk.take k.1) body)),(10,.rowE (uB bk) 4),(11,.i (uB bk).length),(12,.i k.1)]) (fun _ => []) (fun k => bk.length - k.1) ⟨0,bM _⟩ (rL []) ?_
  rintro ⟨k,hk⟩;dsimp only;by_cases hlt : k < bk.length
  · have hg := D7 hlt;have hm := aI hlt;have hf := MD bk[k] body (h1 _ hm).1 (h1 _ hm).2 (hs.1 _ hm);have hrt := HD (b := body) hlt;have hb1 := hs.2 body k;have hb2 := hs.2 body (k + 1);generalize bk[k] = o at *;generalize eD o.tk.flatten body = q at *;generalize lU (bk.take k) body = s0 at *
    (repeat' (first|refine wS ?_|refine wB ?_|refine wK ?_|refine wT ?_|(refine rg 3 (vV (mY rfl rfl (by omega)) ?_))|(refine rg 4 (mW rfl (aV ?_)))|(refine rg 5 (fF rfl (nV ?_));refine jH T rfl (mW rfl (vV (ix T rfl (by omega) (uV bk) hg) (mW rfl (vV (kC (hf)) (vV (dS rfl rfl (by omega) (by omega)) (aV ?_)))))))|(refine rg 6 (vV (dS rfl rfl (by omega) (by omega)) (mV ?_)))|refine nZ ?_));all_goals try (exfalso;omega)
    all_goals exact ⟨⟨k + 1,hlt⟩,by dsimp only;omega,⟨[],rfl,⟨rfl,rfl,by dsimp only;rw [hrt];rfl,rfl,rfl,rfl,trivial⟩,trivial,bB,fun _ h => absurd h (gI _)⟩⟩
  · obtain rfl : k = bk.length := by omega
    rw [dY]
    (repeat' (first|refine wS ?_|refine wR ?_|refine wE ?_|refine wU ?_|(refine rg 3 (vV (mZ rfl rfl (by omega)) ?_))|(refine rg 7 (mW rfl (aV ?_)))|refine nZ ?_));all_goals try (exfalso;omega)
    all_goals exact rQ
end Go.Proofs.YtdiogjgohbbllaaGreatDoor
namespace Go.Or
open Go Go.Ab Go.MapKept
def IP (m : List (Int × Int)) (t : Tk) : List (Int × Int) := match m.findIdx? fun e => decide (e.1 = t.1) with
  | some i => m.set i (t.1,(m.getD i (0,0)).2 + t.2)
  | none => m ++ [(t.1,t.2)]
def oA (l : List Tk) : List (Int × Int) := l.foldl IP []
theorem P5 (l : List Tk) (t : Tk) : oA (l ++ [t]) = IP (oA l) t := by unfold oA;rw [List.foldl_append];rfl
structure yC (l : List Tk) (m : List (Int × Int)) : Prop where
  nd : (m.map (·.1)).Nodup
  val : ∀ e,e ∈ m → e.2 = eD l e.1
  cov : ∀ t,t ∈ l → t.1 ∈ m.map (·.1)
  sub : ∀ e,e ∈ m → ∃ t,t ∈ l ∧ t.1 = e.1
theorem AC {m : List (Int × Int)} {i : Nat} {k v w : Int} (h : m[i]? = some (k,w)) : (m.set i (k,v)).map (·.1) = m.map (·.1) := by
  apply cU;intro j;rw [aO,aO,bQ];split
  · rename_i e;subst e;rw [h];simp [(aA.1 h).1]
  · rfl
theorem oV {m : List (Int × Int)} {b : Int} {i : Nat} (h : (m.findIdx? fun e => decide (e.1 = b)) = some i) : m[i]? = some (b,(m.getD i (0,0)).2) := by
  rw [List.findIdx?_eq_some_iff_getElem] at h;obtain ⟨h1,h2,_⟩ := h;rw [aB h1,aD,aB h1];have : m[i].1 = b := by simpa using h2
  rw [← this];rfl
theorem oW {m : List (Int × Int)} {b : Int} (h : (m.findIdx? fun e => decide (e.1 = b)) = none) : b ∉ m.map (·.1) := by
  rw [List.findIdx?_eq_none_iff] at h;intro hm;obtain ⟨e,he,rfl⟩ := aJ.1 hm;have := h e he;simp at this
theorem yC.nil : yC [] [] := ⟨bB,fun e h => absurd h cG,fun t h => absurd h cG,fun e h => absurd h cG⟩
theorem yC.next {l : List Tk} {m : List (Int × Int)} (h : yC l m) (t : Tk) : yC (l ++ [t]) (IP m t) := by
  have hs : ∀ b,eD (l ++ [t]) b = eD l b + if t.1 = b then t.2 else 0 := fun b => by rw [iM];simp [eD]
  unfold IP;split
  · rename_i i hi;have hg := oV hi;have hk := AC (v := (m.getD i (0,0)).2 + t.2) hg;have hv := h.val _ (aH hg);dsimp only at hv;have hun : ∀ {j : Nat} {e : Int × Int},m[j]? = some e → e.1 = t.1 → j = i := fun {j e} hj he => by
      have hjl := (aA.1 hj).1;exact (rF (by simpa using hjl) h.nd).1 (by rw [aO,aO,hj,hg];simp [he])
    refine ⟨by rw [hk];exact h.nd,fun e he => ?_,fun u hu => ?_,fun e he => ?_⟩
    · obtain ⟨j,hj⟩ := bT.1 he;rw [bQ] at hj;split at hj
      · split at hj
        · cases hj;rw [hs,hv];simp
        · cases hj
      · rename_i hne;have hm := aH hj;rw [hs,if_neg (fun e1 => hne (hun hj e1.symm).symm),h.val e hm];omega
    · rw [hk];rcases bD.1 hu with hu | hu
      · exact h.cov u hu
      · rw [bG.1 hu];exact aJ.2 ⟨_,aH hg,rfl⟩
    · obtain ⟨j,hj⟩ := bT.1 he;rw [bQ] at hj;split at hj
      · split at hj
        · cases hj;exact ⟨t,by simp,rfl⟩
        · cases hj
      · obtain ⟨u,h1,h2⟩ := h.sub e (aH hj);exact ⟨u,iW _ h1,h2⟩
  · rename_i hi;have hni := oW hi;have hz : eD l t.1 = 0 := qQ fun u hu e => hni (e ▸ h.cov u hu)
    refine ⟨?_,fun e he => ?_,fun u hu => ?_,fun e he => ?_⟩
    · rw [cO,dX];exact ⟨h.nd,by simp,fun a ha b hb e => by simp at hb;subst hb;exact hni (e ▸ ha)⟩
    · rcases bD.1 he with he | he
      · have hne : t.1 ≠ e.1 := fun e1 => hni (e1 ▸ aJ.2 ⟨e,he,rfl⟩);rw [hs,if_neg hne,h.val e he];omega
      · rw [bG.1 he,hs];dsimp only;rw [hz,if_pos rfl];omega
    · rw [cO];rcases bD.1 hu with hu | hu
      · exact iW _ (h.cov u hu)
      · rw [bG.1 hu];simp
    · rcases bD.1 he with he | he
      · obtain ⟨u,h1,h2⟩ := h.sub e he;exact ⟨u,iW _ h1,h2⟩
      · rw [bG.1 he];exact ⟨t,by simp,rfl⟩
theorem JW {α : Type} {P : List α → Prop} (h0 : P []) (h1 : ∀ l x,P l → P (l ++ [x])) : ∀ l,P l := fun l => by
  have key : ∀ m : List α,P m.reverse := fun m => by
    induction m with
    | nil => exact h0
    | cons x m ih => rw [List.reverse_cons];exact h1 _ _ ih
  have := key l.reverse
  rwa [List.reverse_reverse] at this
theorem U0 (l : List Tk) : yC l (oA l) := JW (P := fun l => yC l (oA l)) yC.nil (fun l t h => by rw [P5];exact h.next t) l
abbrev A6 (m : List (Int × Int)) : List Value := m.map fun e => kI e.1
abbrev K8 (m : List (Int × Int)) : List AV := m.map fun e => AV.i e.2
theorem LQ {a b : Int} (h : kI a = kI b) : a = b := by cases h;rfl
theorem LF {m : List (Int × Int)} (h : (m.map (·.1)).Nodup) : (A6 m).Nodup := by
  rw [show A6 m = (m.map (·.1)).map kI by simp [A6]]
  generalize m.map (·.1) = L at *
  induction L with
  | nil => exact bB
  | cons x l ih =>
    rw [aL] at h;rw [List.map_cons,aL];exact ⟨fun hm => by obtain ⟨y,hy,e⟩ := aJ.1 hm;exact h.1 (LQ e ▸ hy),ih h.2⟩
theorem tQ (m : List (Int × Int)) : ∀ q,q ∈ A6 m → IsKey (.int .i64) q := by
  intro q hq;obtain ⟨e,_,rfl⟩ := aJ.1 hq;exact zL _
theorem SW {m : List (Int × Int)} {b : Int} (h : b ∉ m.map (·.1)) : kI b ∉ A6 m := fun hm => by
  obtain ⟨e,he,e1⟩ := aJ.1 hm;exact h (aJ.2 ⟨e,he,LQ e1⟩)
theorem PN {m : List (Int × Int)} {i : Nat} {b v w : Int} (h : m[i]? = some (b,w)) : A6 (m.set i (b,v)) = A6 m := by
  have e : ∀ q : List (Int × Int),A6 q = (q.map (·.1)).map kI := fun q => by simp [A6]
  rw [e,e,AC h]
theorem PL {m : List (Int × Int)} {i : Nat} {b v : Int} : K8 (m.set i (b,v)) = (K8 m).set i (.i v) := by
  show List.map (fun e : Int × Int => AV.i e.2) (m.set i (b,v)) = _;rw [oF]
theorem jP (m : List (Int × Int)) : AV.idfL (K8 m) = true := by
  induction m with
  | nil => rfl
  | cons e m ih => exact ih
def qJ (l : List Tk) (sure : List Bo) (D : List Int) : List Bo := sure.mapIdx fun j b => if (j : Int) ∈ D then (b.1,max 0 (b.2.1 - eD l j),b.2.2) else b
theorem KN {l : List Tk} {sure : List Bo} {D : List Int} : (qJ l sure D).length = sure.length := by simp [qJ]
theorem KM {l : List Tk} {sure : List Bo} : qJ l sure [] = sure := by
  unfold qJ;apply cU;intro j;rw [fI];cases sure[j]? <;> simp
theorem KO {l : List Tk} {sure : List Bo} {D : List Int} {b : Int} (hb : 0 ≤ b) (hl : b < sure.length) (hn : b ∉ D) : (qJ l sure D).getD b.toNat (0,0,0) = sure.getD b.toNat (0,0,0) := by
  unfold qJ;rw [aD,fI,aD,aB (by omega)]
  simp only [jB,oD];rw [if_neg (by rw [FA hb];exact hn)]
theorem HJ {l : List Tk} {sure : List Bo} {D : List Int} {b : Int} (hb : 0 ≤ b) (hl : b < sure.length) (hn : b ∉ D) :
    (qJ l sure D).set b.toNat ((sure.getD b.toNat (0,0,0)).1,max 0 (cnt sure b - eD l b),(sure.getD b.toNat (0,0,0)).2.2) = qJ l sure (D ++ [b]) := by
  apply cU;intro j;rw [bQ];unfold qJ;rw [fI,fI];by_cases hj : b.toNat = j
  · subst hj;rw [if_pos rfl,if_pos (by simp;omega),aB (by omega)]
    simp only [jB];rw [FA hb,if_pos (by simp)]
    unfold cnt;rw [aD,aB (by omega)]
    rfl
  · rw [if_neg hj];have : ((j : Int) ∈ D ++ [b]) ↔ (j : Int) ∈ D := by
      rw [bD,bG];exact ⟨fun h => h.resolve_right (by omega),.inl⟩
    simp only [this]
theorem HK {l : List Tk} {sure : List Bo} {D : List Int} {b : Int} (hl : (sure.length : Int) ≤ b) : qJ l sure (D ++ [b]) = qJ l sure D := by
  apply cU;intro j;unfold qJ;rw [fI,fI];by_cases hj : j < sure.length
  · have : ((j : Int) ∈ D ++ [b]) ↔ (j : Int) ∈ D := by
      rw [bD,bG];exact ⟨fun h => h.resolve_right (by omega),.inl⟩
    simp only [this]
  · rw [bO (by omega)];rfl
theorem KP {bk : Bk} {sure : List Bo} {D : List Int} (hD : ∀ t,t ∈ gR bk → t.1 ∈ D) (hc : ∀ b : Int,0 ≤ b → 0 ≤ cnt sure b) : qJ (gR bk) sure D = iX bk sure := by
  apply cU;intro j;unfold qJ iX;rw [fI,fI];cases hj : sure[j]? with
  | none => rfl
  | some x =>
    simp only [jB];congr 1;unfold lU;split
    · rfl
    · rename_i hn;rw [qQ fun t ht e => hn (by rw [← e];exact hD t ht)]
      have := hc j (by omega)
      unfold cnt at this;rw [bK,aD,hj] at this;simp only [oD] at this;rw [YQ,Int.max_eq_right this]
theorem IN {bk : Bk} {k : Nat} (h : k < bk.length) : gR (bk.take (k + 1)) = gR (bk.take k) ++ bk[k].tk.flatten := by
  unfold gR;rw [aY h,fB];simp
def N1 (bs : List Nat) (d : List Nat) : List Nat := d.map fun i => bs.getD i 0
theorem HB {bs d : List Nat} (hnd : bs.Nodup) (hlt : ∀ i,i ∈ d → i < bs.length) (h : ∀ b,b ∈ bs → b ∈ N1 bs d) : ∀ i,i < bs.length → i ∈ d := fun i hi => by
  obtain ⟨j,hj,e⟩ := aJ.1 (h bs[i] (aI hi));have hjl := hlt j hj;rw [aD,aB hjl] at e;have : j = i := (rF hjl hnd).1 (by rw [aB hjl,aB hi];simpa using e)
  rw [← this];exact hj
theorem GZ {bs d : List Nat} {i b : Nat} (hi : bs[i]? = some b) (h : b ∉ N1 bs d) : i ∉ d := fun hd => h (aJ.2 ⟨i,hd,by rw [aD,hi];rfl⟩)
theorem DJ {bs d : List Nat} {i b : Nat} (hi : bs[i]? = some b) : N1 bs d ++ [b] = N1 bs (d ++ [i]) := by
  unfold N1;rw [cO];simp [aD,hi]
theorem P1 {d : List Nat} {n : Nat} (hnd : d.Nodup) (hlt : ∀ i,i ∈ d → i < n) : d.length ≤ n := by
  induction n generalizing d with
  | zero =>
    cases d with
    | nil => exact aQ _
    | cons x d => exact absurd (hlt x aN) (by omega)
  | succ n ih =>
    have h1 := ih (d := d.erase n) (hnd.erase n) fun i hi => by
      have h2 := hlt i (List.mem_of_mem_erase hi);have h3 : i ≠ n := fun e => by subst e;exact (List.Nodup.mem_erase_iff hnd).1 hi |>.1 rfl
      omega
    rw [List.length_erase] at h1;split at h1 <;> omega
theorem M4 {h : Hp} {i : Nat} {θ : Nat → Nat} {km since c0 : Nat} {a b : List Nat} (hk : h[i]? = some (.iter (θ km) since a c0)) (e : a = b) : h[i]? = some ((AB.iter km since b c0).map θ) := by rw [hk,e];rfl
theorem AT {d : List Nat} {i : Nat} (h : d.Nodup) (hi : i ∉ d) : (d ++ [i]).Nodup := by
  rw [dX];exact ⟨h,by simp,fun a ha b hb e => hi (by simp at hb;rw [← hb,← e];exact ha)⟩
theorem kR {h : Hp} {i : Nat} {θ : Nat → Nat} {ks ks' : List Value} {vs vs' : List AV} (hk : h[i]? = some (.mapO ks' vs')) (e1 : ks' = ks) (e2 : vs' = vs) (hi : AV.idfL vs = true) : h[i]? = some ((AB.mapO ks vs).map θ) := by
  subst e1 e2;rw [hk];show _ = some (AB.mapO ks' (AV.mapL θ vs'));rw [kZ θ vs' hi]
theorem yK {h : Hp} {i : Nat} {θ : Nat → Nat} {ks : List Value} {vs vs' : List AV} {bs : List Nat} {ck : Nat} (hk : h[i]? = some (.mapB ks vs' bs ck)) (e : vs' = vs) (hi : AV.idfL vs = true) : h[i]? = some ((AB.mapB ks vs bs ck).map θ) := by
  subst e;rw [hk];show _ = some (AB.mapB ks (AV.mapL θ vs') bs ck);rw [kZ θ vs' hi]
theorem mR {l a b : List Tk} (h : l = a ++ b) (hn : ∀ t,t ∈ l → 0 ≤ t.2) (x : Int) : 0 ≤ eD a x ∧ eD a x ≤ eD l x := by
  have nn : ∀ m : List Tk,(∀ t,t ∈ m → 0 ≤ t.2) → 0 ≤ eD m x := fun m hm => by
    induction m with
    | nil => exact uK _
    | cons t m ih =>
      have := ih fun u hu => hm u (aE _ hu);have h1 := hm t aN;simp only [eD];split <;> omega
  subst h;rw [iM];have h1 := nn a fun t ht => hn t (iW _ ht);have h2 := nn b fun t ht => hn t (nG _ ht);omega
structure C4 (bk : Bk) : Prop where
  nn : ∀ t,t ∈ gR bk → 0 ≤ t.1 ∧ 0 ≤ t.2
  le : ∀ b : Int,eD (gR bk) b ≤ 1000000000000
theorem J3 (a b : Bk) : gR (a ++ b) = gR a ++ gR b := by unfold gR;rw [fB]
theorem J2 {bk : Bk} {o : Od} (h : o ∈ bk) {t : Tk} (ht : t ∈ o.tk.flatten) : t ∈ gR bk := dK.2 ⟨o,h,ht⟩
theorem C4.bk {bk : Bk} (h : C4 bk) : RT bk := by
  refine ⟨fun o ho b k => ?_,fun b k => ?_⟩
  · obtain ⟨i,hi⟩ := bT.1 ho;obtain ⟨hl,he⟩ := aA.1 hi;have e : gR bk = gR (bk.take i) ++ (o.tk.flatten ++ gR (bk.drop (i + 1))) := by
      conv => lhs;rw [← bX i bk,aS hl,he]
      rw [J3];rfl
    have hm := h.le b;have h1 := mR e (fun t ht => (h.nn t ht).2) b;have e2 : o.tk.flatten = o.tk.flatten.take k ++ o.tk.flatten.drop k := (bX _ _).symm;have h2 := mR e2 (fun t ht => (h.nn t (J2 ho ht)).2) b;rw [e,iM,iM] at hm;have h3 := mR (l := gR (bk.drop (i + 1))) (a := gR (bk.drop (i + 1))) (b := []) (by simp) (fun t ht => (h.nn t (by rw [e];simp [ht])).2) b
    omega
  · have e : gR bk = gR (bk.take k) ++ gR (bk.drop k) := by rw [← J3,bX]
    have := mR e (fun t ht => (h.nn t ht).2) b;have := h.le b;unfold lU;omega
theorem C4.part {bk : Bk} (h : C4 bk) {k j : Nat} (hk : k < bk.length) (b : Int) : 0 ≤ eD (gR (bk.take k) ++ bk[k].tk.flatten.take j) b ∧ eD (gR (bk.take k) ++ bk[k].tk.flatten.take j) b ≤ 1000000000000 := by
  have e : gR bk = (gR (bk.take k) ++ bk[k].tk.flatten.take j) ++ (bk[k].tk.flatten.drop j ++ gR (bk.drop (k + 1))) := by
    conv => lhs;rw [← bX k bk,aS hk]
    rw [J3];show _ ++ (bk[k].tk.flatten ++ _) = _;generalize bk[k].tk.flatten = F
    conv => lhs;rw [← bX j F]
    simp only [bF];rfl
  have := mR e (fun t ht => (h.nn t ht).2) b;have := h.le b;omega
theorem WW (S : Nat → Prop) (w : World) (ρ : Pl) : R S w (.i 0) ρ (.int .i64 0) := by simp [R]
end Go.Or
namespace Go.Proofs.YtdiogjgohbbllaaGreatDoor
open Go Go.Ab Go.Or Go.MapKept
attribute [local irreducible] VC AW bR bN eS AY VY B8
set_option maxHeartbeats 4000000
theorem P6 : Tryz.prog.underlying 103 = some (.map 3 3) := by kernel_rfl
theorem BD : oK Tryz.prog 3 (IsKey (.int .i64)) := oK.int (by kernel_rfl)
theorem XZ : ∀ w,(zeroValue 3).run Tryz.prog w = .ok (.int .i64 0) w := Y9 (by kernel_rfl)
theorem VQ : ∀ i : Nat,i < 2 → ([0,1] : List Nat)[i]? = some i := by decide
theorem KE (bk : Bk) (hl : bk.length ≤ 1000000) (h1 : ∀ o,o ∈ bk → o.tk.length ≤ 1000000 ∧ ∀ l,l ∈ o.tk → l.length ≤ 1000000) (hs : C4 bk) :
    bN Tryz.prog 50 [FI bk] [] (.mp 0) [.mapO (A6 (oA (gR bk))) (K8 (oA (gR bk)))] := by
  have hbl := mI bk;refine dC T Tryz.func50 rfl rfl rfl rfl ?_
  (repeat' (first|refine wS ?_|refine wB ?_|(refine rg 0 (aV ?_))|(refine rg 1 (cY (by exact Q5) rfl ?_);refine cY (cS T rfl) rfl (bE T rfl rfl rfl rfl rfl rfl (by decide) rfl ?_))|(refine rg 2 (mW rfl (nV ?_));refine jH T rfl (qW T rfl (mV ?_)))|refine nZ ?_));refine eX (X := {k : Nat // k ≤ bk.length}) (fun k => [(0,FI bk),(3,.ptr 1 0),(10,.rowE (uB bk) 4),(11,.i (uB bk).length),(12,.i k.1)]) (fun k => [.mapO (A6 (oA (gR (bk.take k.1)))) (K8 (oA (gR (bk.take k.1)))),.cells [.mp 0]]) (fun k => bk.length - k.1) ⟨0,bM _⟩ ⟨[0,1],rfl,(by repeat first|exact trivial|refine ⟨rfl,?_⟩),⟨.inr rfl,.inr rfl,trivial⟩,by decide,nP _⟩ ?_
  rintro ⟨k,hk⟩;dsimp only;by_cases hlt : k < bk.length
  · have hg := D7 hlt;have hm := aI hlt;have hsp := fun (j : Nat) (b : Int) => hs.part (j := j) hlt b;have hall := IN hlt;have hal := RQ bk[k];have hit := NK bk[k] (h1 _ hm).1 (h1 _ hm).2;generalize bk[k] = o at *;generalize gR (bk.take k) = A at *
    (repeat' (first|refine wS ?_|refine wB ?_|refine wK ?_|refine wT ?_|(refine rg 3 (vV (mY rfl rfl (by omega)) ?_))|(refine rg 4 (mW rfl (aV ?_)))|(refine rg 5 (mW rfl (nV ?_));refine jH T rfl (mW rfl (vV (ix T rfl (by omega) (uV bk) hg) (vV (kC (hal)) ?_))))|refine nZ ?_));refine CC [] [0,1] [(0,FI bk),(3,.ptr 1 0),(10,.rowE (uB bk) 4),(11,.i (uB bk).length),(12,.i k)] (fun j => [.mapO (A6 (oA (A ++ o.tk.flatten.take j))) (K8 (oA (A ++ o.tk.flatten.take j))),.cells [.mp 0]]) 2 rfl hit rfl rfl rfl trivial bB rfl (by repeat first|exact trivial|refine ⟨rfl,?_⟩) ⟨.inr (kR rfl (by simp) (by simp) (jP _)),.inr rfl,trivial⟩ (by decide) (nP _) (by simp) (bM _) (aU rfl) rfl (by decide) (fun m hm => by rw [qP hm];exact ⟨rfl,rfl⟩) ?_ ?_
    · intro j hj;rw [qP hj];have hb1 := hsp j;have hb2 := hsp (j + 1);have hsn : oA (A ++ o.tk.flatten.take (j + 1)) = IP (oA (A ++ o.tk.flatten.take j)) o.tk.flatten[j] := by
        rw [aY hj,← bF,P5]
      have hs2 : ∀ b,eD (A ++ o.tk.flatten.take (j + 1)) b = eD (A ++ o.tk.flatten.take j) b + (if o.tk.flatten[j].1 = b then o.tk.flatten[j].2 else 0) := fun b => by
        rw [aY hj,← bF,iM];simp [eD]
      have hmo := U0 (A ++ o.tk.flatten.take j);generalize o.tk.flatten[j] = t at *;generalize A ++ o.tk.flatten.take j = Y at *;generalize hM1 : oA (A ++ o.tk.flatten.take (j + 1)) = M1 at *;generalize hY1 : A ++ o.tk.flatten.take (j + 1) = Y1 at *;generalize oA Y = M at *;obtain ⟨tb,tn⟩ := t;dsimp only at *;have hnd := LF hmo.nd;unfold IP at hsn;cases hfi : M.findIdx? fun e => decide (e.1 = tb) with
      | some i =>
        rw [hfi] at hsn;dsimp only at hsn;have hg1 := oV hfi;have hk1 : (A6 M)[i]? = some (kI tb) := by rw [aO,hg1];rfl
        have hk2 : (K8 M)[i]? = some (.i (M.getD i (0,0)).2) := by rw [aO,hg1];rfl
        have hv := hmo.val _ (aH hg1);dsimp only at hv;have c1 := hb1 tb;have c2 := hb2 tb;rw [hs2,if_pos rfl] at c2;have e1 := PN (v := (M.getD i (0,0)).2 + tn) hg1;have e2 := PL (m := M) (i := i) (b := tb) (v := (M.getD i (0,0)).2 + tn);rw [← hsn] at e1 e2;generalize (M.getD i (0,0)).2 = v at *
        (repeat' (first|(refine rg 6 (cY (cS T rfl) rfl (bE T rfl rfl rfl rfl rfl rfl (by decide) rfl ?_)))|refine nZ ?_));refine ⟨rfl,?_⟩
        (repeat' (first|refine wB ?_|(refine rg 7 (lW T rfl (jH T rfl (vV (by exact EI P6 BD rfl rfl (BA _) rfl (tQ M) (zL _) hnd hk1 hk2) ?_)));refine jH T rfl (vV (dS rfl rfl (by omega) (by omega)) (GN P6 BD rfl rfl (BA _) rfl rfl (tQ M) (zL _) hnd hk1 ?_)))|refine nZ ?_));all_goals try (exfalso;omega)
        all_goals
          show W9 _ _ _ _ [AB.mapO (A6 (oA _)) (K8 (oA _)),AB.cells [AV.mp 0]];rw [hY1,hM1];exact ⟨[0,1],rfl,trivial,⟨.inr (kR rfl e1.symm e2.symm (jP _)),.inr rfl,trivial⟩,by decide,VQ⟩
      | none =>
        rw [hfi] at hsn;dsimp only at hsn;have hno := SW (oW hfi);have c2 := hb2 tb;have c0 : eD Y tb = 0 := qQ fun u hu e => oW hfi (e ▸ hmo.cov u hu);rw [hs2,if_pos rfl,c0] at c2;have e1 : A6 M1 = A6 M ++ [kI tb] := by rw [hsn];simp [A6]
        have e2 : K8 M1 = K8 M ++ [.i (0 + tn)] := by rw [hsn];simp [K8]
        (repeat' (first|(refine rg 6 (cY (cS T rfl) rfl (bE T rfl rfl rfl rfl rfl rfl (by decide) rfl ?_)))|refine nZ ?_));refine ⟨rfl,?_⟩
        (repeat' (first|refine wB ?_|(refine rg 7 (lW T rfl (jH T rfl (vV (by exact B2 (zA := .i 0) P6 BD XZ WW rfl rfl (BA _) rfl (tQ M) (zL _) hno) ?_)));refine jH T rfl (vV (dS rfl rfl (by omega) (by omega)) (L6 P6 BD rfl rfl (BA _) rfl rfl (tQ M) (zL _) hno ?_)))|refine nZ ?_));all_goals try (exfalso;omega)
        all_goals
          show W9 _ _ _ _ [AB.mapO (A6 (oA _)) (K8 (oA _)),AB.cells [AV.mp 0]];rw [hY1,hM1];exact ⟨[0,1],rfl,trivial,⟨.inr (kR rfl e1.symm e2.symm (jP _)),.inr rfl,trivial⟩,by decide,VQ⟩
    · rw [dY,← hall]
      (repeat' (first|(refine rg 8 (vV (dS rfl rfl (by omega) (by omega)) (mV ?_)))|refine nZ ?_));all_goals exact ⟨⟨k + 1,hlt⟩,by dsimp only;omega,⟨[0,1],rfl,(by repeat first|exact trivial|refine ⟨rfl,?_⟩),⟨.inr (kR rfl rfl rfl (jP _)),.inr rfl,trivial⟩,by decide,nP _⟩⟩
  · obtain rfl : k = bk.length := by omega
    rw [dY]
    (repeat' (first|refine wS ?_|refine wR ?_|refine wE ?_|refine wU ?_|(refine rg 3 (vV (mZ rfl rfl (by omega)) ?_))|(refine rg 9 (lW T rfl (aV ?_)))|refine nZ ?_));all_goals try (exfalso;omega)
    all_goals exact ⟨.inl rfl,[0],_,rfl,rfl,rfl,⟨.inr (kR rfl rfl rfl (jP _)),trivial⟩,by decide,nP _⟩
theorem OT (bk : Bk) (sure : List Bo) (hl : bk.length ≤ 1000000) (h1 : ∀ o,o ∈ bk → o.tk.length ≤ 1000000 ∧ ∀ l,l ∈ o.tk → l.length ≤ 1000000) (hs : C4 bk) (hsl : sure.length ≤ 1000000) (hc : ∀ b : Int,0 ≤ b → 0 ≤ cnt sure b ∧ cnt sure b ≤ 20000) :
    bN Tryz.prog 19 [FI bk,.rowE (eR sure) 3] [] (.sl 0 0 (iX bk sure).length 3) [.arr (eR (iX bk sure)) 3] := by
  have hrm := KE bk hl h1 hs;have hcl := IF sure hsl;have hmo := U0 (gR bk);have hnn := hs.nn;have hle := hs.le;rw [kT];have hfin : ∀ D : List Int,(∀ t,t ∈ gR bk → t.1 ∈ D) → qJ (gR bk) sure D = iX bk sure := fun D hD => KP hD fun b hb => (hc b hb).1;generalize iX bk sure = SP at *;generalize gR bk = A at *;generalize oA A = m at *;refine dC T Tryz.func19 rfl rfl rfl rfl ?_
  (repeat' (first|refine wS ?_|refine wB ?_|(refine rg 0 (aV ?_))|(refine rg 1 (mW rfl (cY (by exact qC rfl rfl hcl (.inr ⟨rfl,rfl,by simp⟩)) rfl ?_));refine aV ?_)|(refine rg 2 (mW rfl (cY (by exact qC rfl rfl hrm (.inr ⟨rfl,rfl,by simp⟩)) rfl ?_));refine CZ 1 rfl fun bs ck hb1' hb2' hb3' hb4'=>?_;refine cY (by exact MC P6 rfl rfl) rfl ?_)|refine nZ ?_));have hbl : bs.length = m.length := by rw [hb1'];simp
  refine eX (X := {d : List Nat // d.Nodup ∧ ∀ i,i ∈ d → i < m.length}) (fun d => [(5,.sl 0 0 sure.length 3),(12,.ptr 2 0)]) (fun d => [.arr (eR (qJ A sure (d.1.map fun i => (m.getD i (0,0)).1))) 3,.mapB (A6 m) (K8 m) bs ck,.iter 1 ck (N1 bs d.1) ck]) (fun d => m.length - d.1.length) ⟨[],bB,fun i hi => by cases hi⟩ ⟨[0,1,2],rfl,(by repeat first|exact trivial|refine ⟨rfl,?_⟩),⟨.inr (cM rfl (by rw [gW _ (wA _)];exact congrArg eR KM.symm) (wA _)),.inr (yK rfl (kZ _ _ (jP _)) (jP _)),.inr rfl,trivial⟩,by decide,nP _⟩ ?_
  rintro ⟨d,hnd,hlt⟩;dsimp only;have hdl := P1 hnd hlt
  repeat' (first|refine wS ?_|refine wB ?_|refine wK ?_|refine wE ?_|refine wT ?_|refine wU ?_|(refine rg 3 ?_;refine OI rfl rfl rfl hb4' (aQ _) rfl (fun hend=>CY 1 rfl ?_) (fun i kv v b g1 g1' g2 g3=>?_);(all_goals (refine xV ?_)))|refine nZ ?_)
  · have hall := HB hb3' (by rw [hbl];exact hlt) hend
    rw [hbl] at hall;have hD := hfin (d.map fun i => (m.getD i (0,0)).1) fun t ht => by
      obtain ⟨e,he,e1⟩ := aJ.1 (hmo.cov t ht);obtain ⟨i,hi⟩ := bT.1 he;refine aJ.2 ⟨i,hall i (aA.1 hi).1,?_⟩;rw [aD,hi];exact e1
    rw [hD]
    (repeat' (first|refine wR ?_|(refine rg 7 (mW rfl (aV ?_)))|refine nZ ?_));all_goals exact ⟨.inl rfl,[0],_,rfl,rfl,rfl,⟨.inr (cM rfl rfl (wA _)),trivial⟩,by decide,nP _⟩
  · rw [aO] at g1;obtain ⟨⟨b0,v0⟩,hac,rfl⟩ := bY.1 g1;have hv : v = .i v0 := by rw [aO,hac] at g1';simpa using g1'.symm
    subst hv;have k1 : (A6 m)[i]? = some (kI b0) := by rw [aO,hac];rfl
    have k2 : (K8 m)[i]? = some (.i v0) := by rw [aO,hac];rfl
    have hnew := GZ g2 g3;have hil := (aA.1 hac).1;have hsn := DJ (d := d) g2;have hd' : (d ++ [i]).Nodup ∧ ∀ j,j ∈ d ++ [i] → j < m.length := ⟨AT hnd hnew,fun j hj => (bD.1 hj).elim (hlt j) (fun e => by simp at e;rw [e];exact hil)⟩
    have hdl2 := P1 hd'.1 hd'.2;rw [aC,cK] at hdl2;have hmm := aH hac;have hval := hmo.val _ hmm;obtain ⟨u,hu1,hu2⟩ := hmo.sub _ hmm;have hb0 := (hnn u hu1).1;dsimp only at hval hu2;rw [hu2] at hb0;have hvn : 0 ≤ v0 ∧ v0 ≤ 1000000000000 := by
      rw [hval];exact ⟨(mR (l := A) (a := A) (b := []) (by simp) (fun t ht => (hnn t ht).2) b0).1,hle b0⟩
    have hmap : (d ++ [i]).map (fun i => (m.getD i (0,0)).1) = d.map (fun i => (m.getD i (0,0)).1) ++ [b0] := by
      rw [cO];simp only [List.map_cons,List.map_nil];rw [aD,hac];rfl
    have hnb : b0 ∉ d.map (fun i => (m.getD i (0,0)).1) := fun hm => by
      obtain ⟨j,hj,e⟩ := aJ.1 hm;have hjl := hlt j hj;have e2 : (m.map (·.1))[j]? = (m.map (·.1))[i]? := by
        rw [aO,aO,hac,aB hjl];rw [aD,aB hjl] at e;simpa using e
      exact hnew (((rF (by simpa using hjl) hmo.nd).1 e2) ▸ hj)
    generalize hD1 : (d ++ [i]).map (fun i => (m.getD i (0,0)).1) = D1 at *;generalize d.map (fun i => (m.getD i (0,0)).1) = D at *;subst hmap;have hbl2 := gX (qJ A sure D);have hol := KN (l := A) (sure := sure) (D := D);by_cases hin : b0 < sure.length
    · have hst := HJ (l := A) hb0 hin hnb;have hge := KO (l := A) hb0 hin hnb;have hbo := xS (bs := qJ A sure D) hb0 (by omega)
      have hcn : cnt (qJ A sure D) b0 = cnt sure b0 := by unfold cnt;rw [hge]
      rw [hge,hcn] at hbo;have hcc := hc b0 hb0;rw [← hval] at hst;have hst2 := congrArg eR hst;rw [← MV] at hst2;dsimp only at hst2;generalize (sure.getD b0.toNat (0,0,0)).1 = x1 at *;generalize (sure.getD b0.toNat (0,0,0)).2.2 = x3 at *;generalize cnt sure b0 = c at *;generalize hO1 : qJ A sure (D ++ [b0]) = O1 at *;generalize qJ A sure D = O at *
      (repeat' (first|refine wS ?_|refine wT ?_|(refine rg 4 (cY (by exact BN rfl rfl rfl rfl g2 k1 k2) rfl ?_);refine xW rfl (xW rfl (oC ?_)))|(refine rg 5 (fF rfl (qW T rfl (vV (mY rfl rfl (by omega)) ?_))))|(refine rg 6 (fF rfl (fF rfl (vV (by exact cI T rfl rfl rfl rfl rfl (by omega) (by omega)) ?_)));refine fW T rfl (vV (by exact bC T rfl rfl (eF rfl hbo) rfl) ?_);refine mW rfl (vV (gN rfl rfl (by omega) (by omega)) (vV (TH rfl rfl) (vV (by exact cI T rfl rfl rfl rfl rfl (by omega) (by omega)) ?_)));refine fW T rfl (bE T rfl rfl rfl rfl rfl rfl (by decide) (oZ rfl hbo rfl rfl) ?_))|refine nZ ?_));all_goals try (exfalso;omega)
      all_goals exact ⟨⟨d ++ [i],hd'⟩,by dsimp only;rw [aC,cK];omega,[0,1,2],rfl,(by repeat first|exact trivial|refine ⟨rfl,?_⟩),⟨.inr (cM rfl (by dsimp only;rw [hD1,hO1,← hst2,Nat.zero_add]) (wA _)),.inr (yK rfl rfl (jP _)),.inr (M4 rfl hsn),trivial⟩,by decide,nP _⟩
    · have hsk := HK (l := A) (sure := sure) (D := D) (b := b0) (by omega)
      (repeat' (first|refine wS ?_|refine wK ?_|refine wU ?_|(refine rg 4 (cY (by exact BN rfl rfl rfl rfl g2 k1 k2) rfl ?_);refine xW rfl (xW rfl (oC ?_)))|(refine rg 5 (fF rfl (qW T rfl (vV (mZ rfl rfl (by omega)) ?_))))|refine nZ ?_));all_goals try (exfalso;omega)
      all_goals exact ⟨⟨d ++ [i],hd'⟩,by dsimp only;rw [aC,cK];omega,[0,1,2],rfl,(by repeat first|exact trivial|refine ⟨rfl,?_⟩),⟨.inr (cM rfl (by dsimp only;rw [hD1,hsk]) (wA _)),.inr (yK rfl rfl (jP _)),.inr (M4 rfl hsn),trivial⟩,by decide,nP _⟩
end Go.Proofs.YtdiogjgohbbllaaGreatDoor
namespace Go.Or
open Go Go.Ab
theorem M7 {α : Type} {L : List α} {i : Nat} {e e' : α} (h : L[i]? = some e) : L = L.take i ++ e :: L.drop (i + 1) ∧ L.set i e' = L.take i ++ e' :: L.drop (i + 1) := by
  obtain ⟨h1,h2⟩ := aA.1 h;refine ⟨?_,by rw [List.set_eq_take_append_cons_drop,if_pos h1]⟩
  conv => lhs;rw [← bX i L,aS h1,h2]
theorem jC.upd {H H' : Hp} {pb po : Nat} {L : OL} (h : jC H pb po L) {i : Nat} {e : Od × AV × List Nat} (hi : L[i]? = some e) (o' : Od) (x' : AV) (B : List Nat)
    (hpb : H'[pb]? = H[pb]?) (hpo : H'[po]? = some (.arr ((L.map fun e => iY e.1 e.2.1).set i (iY o' x')) 4)) (hk : ∀ k,k < H.length → k ≠ po → k ∉ e.2.2 → H'[k]? = H[k]?)
    (hn : kG H' x' o'.tk B) (hB : ∀ k,k ∈ B → k ∈ e.2.2 ∨ H.length ≤ k) (hBn : B.Nodup) : jC H' pb po (L.set i (o',x',B)) := by
  obtain ⟨s1,s2⟩ := M7 (e' := (o',x',B)) hi;have hnd := h.nd;have hlt := h.lt;have hfe : L.flatMap (·.2.2) = (L.take i).flatMap (·.2.2) ++ (e.2.2 ++ (L.drop (i + 1)).flatMap (·.2.2)) := by
    conv => lhs;rw [s1]
    rw [fB,fH]
  have hfs : (L.set i (o',x',B)).flatMap (·.2.2) = (L.take i).flatMap (·.2.2) ++ (B ++ (L.drop (i + 1)).flatMap (·.2.2)) := by
    rw [s2,fB,fH]
  have hmem : ∀ k,k ∈ L.flatMap (·.2.2) → k ∈ vU pb po L := fun k hk => aE _ (aE _ hk);simp only [aL,aR,not_or] at hnd;obtain ⟨⟨n1,n2⟩,n3,n4⟩ := hnd;rw [hfe] at n2 n3 n4 hmem;generalize hF1 : (L.take i).flatMap (·.2.2) = F1 at *;generalize hF2 : (L.drop (i + 1)).flatMap (·.2.2) = F2 at *;have n4' := n4;rw [dX] at n4;obtain ⟨m1,m2,m3⟩ := n4;rw [dX] at m2;obtain ⟨m4,m5,m6⟩ := m2;have hF : ∀ k,k ∈ F1 ∨ k ∈ F2 → k < H.length ∧ k ∉ e.2.2 ∧ k ≠ po ∧ k ≠ pb := fun k hq => by
    have hq2 : k ∈ F1 ++ (e.2.2 ++ F2) := by rcases hq with hq | hq <;> simp [hq]
    refine ⟨hlt k (hmem k hq2),fun he => ?_,fun e1 => n3 (e1 ▸ hq2),fun e1 => n2 (e1 ▸ hq2)⟩;rcases hq with hq | hq
    · exact m3 k hq k (iW _ he) rfl
    · exact m6 k he k hq rfl
  have hpoe : po ∉ e.2.2 ∧ pb ∉ e.2.2 := ⟨fun he => n3 (by simp [he]),fun he => n2 (by simp [he])⟩
  have hpol := hlt po (by simp)
  have hpbl := hlt pb (by simp)
  refine ⟨by rw [hpb,h.b,eB],by rw [hpo,oF],fun f hf => ?_,?_⟩
  · obtain ⟨j,hj⟩ := bT.1 hf;rw [bQ] at hj;split at hj
    · split at hj
      · cases hj;exact hn
      · cases hj
    · rename_i hne;have hfL := aH hj;refine (h.n f hfL).frame fun k hkf => ?_
      have hkF : k ∈ F1 ∨ k ∈ F2 := by
        rcases fJ j i with hji | hji
        · left;rw [← hF1];exact dK.2 ⟨f,aH (i := j) (by rw [bH,if_pos hji];exact hj),hkf⟩
        · right;rw [← hF2];exact dK.2 ⟨f,aH (i := j - (i + 1)) (by rw [dH,show i + 1 + (j - (i + 1)) = j by omega];exact hj),hkf⟩
      obtain ⟨a1,a2,a3,_⟩ := hF k hkF;exact hk k a1 a3 a2
  · rw [hfs];have hBF : ∀ k,k ∈ B → k ∉ F1 ∧ k ∉ F2 ∧ k ≠ po ∧ k ≠ pb := fun k hkB => by
      rcases hB k hkB with hk | hk
      · refine ⟨fun h1 => (hF k (.inl h1)).2.1 hk,fun h1 => (hF k (.inr h1)).2.1 hk,fun e1 => hpoe.1 (e1 ▸ hk),fun e1 => hpoe.2 (e1 ▸ hk)⟩
      · refine ⟨fun h1 => ?_,fun h1 => ?_,by omega,by omega⟩
        · have := (hF k (.inl h1)).1;omega
        · have := (hF k (.inr h1)).1;omega
    simp only [aL,aR,not_or,bD];refine ⟨⟨n1,fun h1 => n2 (by simp [h1]),fun h1 => (hBF pb h1).2.2.2 rfl,fun h1 => n2 (by simp [h1])⟩,⟨fun h1 => n3 (by simp [h1]),fun h1 => (hBF po h1).2.2.1 rfl,fun h1 => n3 (by simp [h1])⟩,?_⟩
    rw [dX];refine ⟨m1,?_,fun a ha b hb e1 => ?_⟩
    · rw [dX];exact ⟨hBn,m5,fun a ha b hb e1 => (hBF a ha).2.1 (e1 ▸ hb)⟩
    · subst e1;rcases bD.1 hb with hb | hb
      · exact (hBF a hb).1 ha
      · exact m3 a ha a (nG _ hb) rfl
theorem jC.fr {H H' : Hp} {pb po : Nat} {L : OL} (h : jC H pb po L) {i : Nat} {e : Od × AV × List Nat} (hi : L[i]? = some e) {o' : Od} {x' : AV} {B : List Nat} (hle : H.length ≤ H'.length) (hpb : H'[pb]? = H[pb]?)
    (hk : ∀ k,k < H.length → k ≠ po → k ∉ e.2.2 → H'[k]? = H[k]?) (hB : ∀ k,k ∈ B → k ∈ e.2.2 ∨ H.length ≤ k) : Fr H (vU pb po L) H' (vU pb po (L.set i (o',x',B))) := by
  obtain ⟨s1,s2⟩ := M7 (e' := (o',x',B)) hi;have he := aH hi;refine ⟨hle,fun k hkl hkA => ?_,fun k hkA => ?_⟩
  · refine hk k hkl (fun e1 => hkA (by subst e1;simp)) fun h1 => hkA ?_
    exact aE _ (aE _ (dK.2 ⟨e,he,h1⟩))
  · rcases aR.1 hkA with rfl | hkA
    · exact .inl (by simp)
    rcases aR.1 hkA with rfl | hkA
    · exact .inl (by simp)
    obtain ⟨f,hf,hkf⟩ := dK.1 hkA;rcases rO hf with rfl | hf
    · rcases hB k hkf with h1 | h1
      · exact .inl (aE _ (aE _ (dK.2 ⟨e,he,h1⟩)))
      · exact .inr h1
    · exact .inl (aE _ (aE _ (dK.2 ⟨f,hf,hkf⟩)))
theorem jC.add {H H' : Hp} {pb po po' : Nat} {L : OL} (h : jC H pb po L) (o' : Od) (ho : o'.tk = []) (hpo' : H.length ≤ po')
    (hpb : H'[pb]? = some (.cells [.sl po' 0 (L.length + 1) 4])) (hpo : H'[po']? = some (.arr ((L.map fun e => iY e.1 e.2.1) ++ [iY o' .nils]) 4)) (hk : ∀ k,k < H.length → k ≠ po → k ≠ pb → H'[k]? = H[k]?) : jC H' pb po' (L ++ [(o',.nils,[])]) := by
  have hnd := h.nd;have hlt := h.lt;simp only [aL,aR,not_or] at hnd;obtain ⟨⟨n1,n2⟩,n3,n4⟩ := hnd;have hpbl := hlt pb (by simp)
  have hfl : ∀ k,k ∈ L.flatMap (·.2.2) → k < H.length := fun k hk => hlt k (aE _ (aE _ hk));refine ⟨by rw [hpb,aC,cK],by rw [hpo];simp,fun f hf => ?_,?_⟩
  · rcases bD.1 hf with hf | hf
    · refine (h.n f hf).frame fun k hkf => ?_
      have hm : k ∈ L.flatMap (·.2.2) := dK.2 ⟨f,hf,hkf⟩;exact hk k (hfl k hm) (fun e1 => n3 (e1 ▸ hm)) (fun e1 => n2 (e1 ▸ hm))
    · rw [bG.1 hf];exact .inl ⟨rfl,ho,rfl⟩
  · rw [fB];simp only [fH,jQ,List.append_nil,aL,aR,not_or];exact ⟨⟨by omega,n2⟩,fun hm => by have := hfl _ hm;omega,n4⟩
theorem jC.addFr {H H' : Hp} {pb po po' : Nat} {L : OL} (h : jC H pb po L) {o' : Od} (hle : H.length ≤ H'.length) (hpo' : H.length ≤ po') (hk : ∀ k,k < H.length → k ≠ po → k ≠ pb → H'[k]? = H[k]?) : Fr H (vU pb po L) H' (vU pb po' (L ++ [(o',.nils,[])])) := by
  refine ⟨hle,fun k hkl hkA => ?_,fun k hkA => ?_⟩
  · exact hk k hkl (fun e1 => hkA (by subst e1;simp)) (fun e1 => hkA (by subst e1;simp))
  · rcases aR.1 hkA with rfl | hkA
    · exact .inl (by simp)
    rcases aR.1 hkA with rfl | hkA
    · exact .inr hpo'
    rw [fB] at hkA;simp only [fH,jQ,List.append_nil] at hkA;exact .inl (aE _ (aE _ hkA))
theorem KU {L : OL} {i : Nat} {e : Od × AV × List Nat} (h : L[i]? = some e) : (L.map fun e => iY e.1 e.2.1)[i]? = some (iY e.1 e.2.1) := by rw [aO,h];rfl
theorem xD {L : OL} {j : Int} {e : Od × AV × List Nat} (h : L[j.toNat]? = some e) : (L.map fun e => iY e.1 e.2.1)[0 + j.toNat]? = some (iY e.1 e.2.1) := by rw [Nat.zero_add];exact KU h
theorem G1 {L : OL} {i : Nat} (h : i < L.length) : ∃ e,L[i]? = some e ∧ (L.map (·.1)).getD i fY = e.1 := by
  refine ⟨L[i],aB h,?_⟩;rw [aD,aO,aB h];rfl
theorem T7 {L : OL} {i : Nat} {o' : Od} {x' : AV} {B : List Nat} : (L.set i (o',x',B)).map (·.1) = (L.map (·.1)).set i o' := by rw [oF]
theorem jC.more {H H' : Hp} {pb po : Nat} {L : OL} (h : jC H pb po L) (hk : ∀ k,k < H.length → H'[k]? = H[k]?) : jC H' pb po L := h.frame fun k hkA => hk k (h.lt k hkA)
theorem iP {H Z : Hp} {k : Nat} (hk : k < H.length) : (H ++ Z)[k]? = H[k]? := by rw [aG hk]
theorem eK {H : Hp} {k q : Nat} {x : AB} (hk : k ≠ q) : (H.set q x)[k]? = H[k]? := by rw [gG (Ne.symm hk)]
end Go.Or
