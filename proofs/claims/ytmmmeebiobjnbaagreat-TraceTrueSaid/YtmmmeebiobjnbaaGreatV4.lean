/-
  Texts of the logic and of the layer,in one module (part 4).
-/
import Derived.Test.YtmmmeebiobjnbaaGreatV3
import Derived.Test.YtmmmeebiobjnbaaGreatRows
import Derived.KernelRfl
import Derived.Shelf.Lay
import Derived.Shelf.Sort.Plain
import Derived.Shelf.Slices.In.SortNone
import Derived.Ground.NamesProg
import Derived.WalkKit
set_option linter.unusedVariables false
set_option linter.unusedSimpArgs false
set_option linter.unnecessarySimpa false
namespace Go.Proofs.YtmmmeebiobjnbaaGreat
open Go Go.Ab
def yG8 : List (Nat × TI) := [(1,⟨false,1,8,[.nilFunc]⟩),
  (2,⟨false,1,8,[.int .i64 0]⟩),
  (3,⟨false,1,8,[.int .i64 0]⟩),
  (4,⟨false,1,1,[.bool false]⟩),
  (5,⟨false,1,1,[.int .u8 0]⟩),
  (6,⟨false,1,1,[.int .u8 0]⟩),
  (7,⟨true,4,24,[.int .i64 0,.int .i64 0,.bool false,.int .u8 0]⟩),
  (8,⟨true,4,24,[.int .i64 0,.int .i64 0,.bool false,.int .u8 0]⟩),
  (9,⟨false,1,16,[.string ⟨#[]⟩]⟩),
  (10,⟨false,1,16,[.string ⟨#[]⟩]⟩),
  (11,⟨false,1,16,[.string ⟨#[]⟩]⟩),
  (12,⟨false,1,8,[.int .u64 0]⟩),
  (13,⟨true,2,24,[.string ⟨#[]⟩,.int .u64 0]⟩),
  (14,⟨true,2,24,[.string ⟨#[]⟩,.int .u64 0]⟩),
  (15,⟨false,1,8,[.pointer none]⟩),
  (16,⟨false,1,8,[.pointer none]⟩),
  (17,⟨false,1,8,[.pointer none]⟩),
  (18,⟨true,1,8,[.pointer none]⟩),
  (19,⟨true,1,8,[.pointer none]⟩),
  (21,⟨false,1,4,[.int .i32 0]⟩),
  (22,⟨false,1,24,[.slice none 0 0]⟩),
  (23,⟨false,1,24,[.slice none 0 0]⟩),
  (24,⟨false,1,24,[.slice none 0 0]⟩),
  (25,⟨false,1,24,[.slice none 0 0]⟩),
  (26,⟨true,4,96,[.slice none 0 0,.slice none 0 0,.slice none 0 0,.slice none 0 0]⟩),
  (27,⟨true,4,96,[.slice none 0 0,.slice none 0 0,.slice none 0 0,.slice none 0 0]⟩),
  (28,⟨true,4,32,[.int .i64 0,.int .i64 0,.int .i64 0,.int .i64 0]⟩),
  (29,⟨true,4,32,[.int .i64 0,.int .i64 0,.int .i64 0,.int .i64 0]⟩),
  (30,⟨false,1,24,[.slice none 0 0]⟩),
  (31,⟨false,1,8,[.nilFunc]⟩),
  (32,⟨false,1,8,[.nilFunc]⟩),
  (33,⟨false,1,8,[.nilFunc]⟩),
  (34,⟨false,1,8,[.nilFunc]⟩),
  (35,⟨false,1,8,[.pointer none]⟩),
  (36,⟨false,1,8,[.int .i64 0]⟩),
  (38,⟨false,1,8,[.nilFunc]⟩),
  (39,⟨false,1,24,[.slice none 0 0]⟩),
  (40,⟨false,1,24,[.slice none 0 0]⟩),
  (41,⟨false,1,24,[.slice none 0 0]⟩),
  (42,⟨false,1,8,[.nilFunc]⟩),
  (44,⟨false,1,8,[.nilFunc]⟩),
  (45,⟨false,1,8,[.nilFunc]⟩),
  (46,⟨true,5,56,[.int .i64 0,.int .i64 0,.int .i64 0,.int .i64 0,.slice none 0 0]⟩),
  (47,⟨true,5,56,[.int .i64 0,.int .i64 0,.int .i64 0,.int .i64 0,.slice none 0 0]⟩),
  (48,⟨true,4,32,[.int .i64 0,.int .i64 0,.int .i64 0,.int .i64 0]⟩),
  (49,⟨true,4,32,[.int .i64 0,.int .i64 0,.int .i64 0,.int .i64 0]⟩),
  (50,⟨true,10,96,[.bool false,.int .i64 0,.int .i64 0,.int .i64 0,.int .i64 0,.slice none 0 0,.int .i64 0,.int .i64 0,.int .i64 0,.int .i64 0]⟩),
  (51,⟨true,10,96,[.bool false,.int .i64 0,.int .i64 0,.int .i64 0,.int .i64 0,.slice none 0 0,.int .i64 0,.int .i64 0,.int .i64 0,.int .i64 0]⟩),
  (52,⟨false,1,8,[.nilFunc]⟩),
  (53,⟨false,1,8,[.nilFunc]⟩),
  (54,⟨false,1,8,[.nilFunc]⟩),
  (55,⟨false,1,8,[.nilFunc]⟩),
  (56,⟨false,1,8,[.nilFunc]⟩),
  (58,⟨false,1,8,[.nilFunc]⟩),
  (59,⟨false,1,8,[.nilFunc]⟩),
  (60,⟨true,3,24,[.int .i64 0,.int .i64 0,.int .i64 0]⟩),
  (61,⟨true,3,24,[.int .i64 0,.int .i64 0,.int .i64 0]⟩),
  (62,⟨false,1,8,[.nilFunc]⟩),
  (63,⟨true,4,80,[.slice none 0 0,.slice none 0 0,.int .i64 0,.slice none 0 0]⟩),
  (64,⟨true,4,80,[.slice none 0 0,.slice none 0 0,.int .i64 0,.slice none 0 0]⟩),
  (65,⟨false,1,24,[.slice none 0 0]⟩),
  (66,⟨false,1,8,[.nilFunc]⟩),
  (67,⟨false,1,8,[.nilFunc]⟩),
  (68,⟨false,1,8,[.nilFunc]⟩),
  (69,⟨false,1,8,[.nilFunc]⟩),
  (70,⟨false,1,24,[.slice none 0 0]⟩),
  (71,⟨false,1,8,[.nilFunc]⟩),
  (72,⟨false,1,8,[.nilFunc]⟩),
  (73,⟨false,1,8,[.nilFunc]⟩),
  (74,⟨false,1,8,[.pointer none]⟩),
  (76,⟨false,1,8,[.nilFunc]⟩),
  (77,⟨false,1,8,[.nilFunc]⟩),
  (78,⟨true,3,24,[.int .i64 0,.int .i64 0,.bool false]⟩),
  (79,⟨true,3,24,[.int .i64 0,.int .i64 0,.bool false]⟩),
  (80,⟨false,1,8,[.nilFunc]⟩),
  (81,⟨false,1,24,[.slice none 0 0]⟩),
  (82,⟨true,6,128,[.slice none 0 0,.slice none 0 0,.pointer none,.slice none 0 0,.slice none 0 0,.slice none 0 0]⟩),
  (83,⟨true,6,128,[.slice none 0 0,.slice none 0 0,.pointer none,.slice none 0 0,.slice none 0 0,.slice none 0 0]⟩),
  (84,⟨true,6,48,[.int .i64 0,.int .i64 0,.int .i64 0,.int .i64 0,.pointer none,.int .i64 0]⟩),
  (85,⟨true,6,48,[.int .i64 0,.int .i64 0,.int .i64 0,.int .i64 0,.pointer none,.int .i64 0]⟩),
  (86,⟨false,1,8,[.nilFunc]⟩),
  (87,⟨false,1,8,[.nilFunc]⟩),
  (88,⟨false,1,8,[.nilFunc]⟩),
  (90,⟨false,1,8,[.nilFunc]⟩),
  (91,⟨false,1,8,[.nilFunc]⟩),
  (92,⟨false,1,8,[.nilFunc]⟩),
  (93,⟨false,1,8,[.nilFunc]⟩),
  (94,⟨false,1,8,[.nilFunc]⟩),
  (95,⟨true,2,24,[.string ⟨#[]⟩,.int .i64 0]⟩),
  (96,⟨true,2,24,[.string ⟨#[]⟩,.int .i64 0]⟩),
  (97,⟨false,1,8,[.nilFunc]⟩),
  (98,⟨false,1,24,[.slice none 0 0]⟩),
  (99,⟨true,8,128,[.int .i64 0,.int .i64 0,.int .i64 0,.int .i64 0,.slice none 0 0,.slice none 0 0,.slice none 0 0,.slice none 0 0]⟩),
  (100,⟨true,8,128,[.int .i64 0,.int .i64 0,.int .i64 0,.int .i64 0,.slice none 0 0,.slice none 0 0,.slice none 0 0,.slice none 0 0]⟩),
  (101,⟨true,2,16,[.int .i64 0,.int .i64 0]⟩),
  (102,⟨true,2,16,[.int .i64 0,.int .i64 0]⟩),
  (103,⟨false,1,24,[.slice none 0 0]⟩),
  (104,⟨true,3,56,[.slice none 0 0,.int .i64 0,.slice none 0 0]⟩),
  (105,⟨true,3,56,[.slice none 0 0,.int .i64 0,.slice none 0 0]⟩),
  (106,⟨false,1,24,[.slice none 0 0]⟩),
  (107,⟨true,2,48,[.slice none 0 0,.slice none 0 0]⟩),
  (108,⟨true,2,48,[.slice none 0 0,.slice none 0 0]⟩),
  (109,⟨false,1,8,[.nilFunc]⟩),
  (110,⟨false,1,8,[.nilFunc]⟩),
  (112,⟨false,1,8,[.nilFunc]⟩),
  (113,⟨false,1,8,[.nilFunc]⟩),
  (114,⟨false,1,8,[.nilFunc]⟩),
  (115,⟨false,1,8,[.nilFunc]⟩),
  (116,⟨false,1,8,[.nilFunc]⟩),
  (118,⟨false,1,8,[.nilFunc]⟩),
  (119,⟨false,1,8,[.nilFunc]⟩),
  (121,⟨false,1,8,[.nilFunc]⟩),
  (122,⟨false,1,8,[.nilFunc]⟩),
  (123,⟨false,1,8,[.nilFunc]⟩),
  (124,⟨false,1,8,[.nilFunc]⟩),
  (125,⟨false,1,8,[.nilFunc]⟩),
  (126,⟨false,1,8,[.nilFunc]⟩),
  (127,⟨false,1,8,[.nilFunc]⟩),
  (128,⟨false,1,8,[.nilFunc]⟩),
  (129,⟨false,1,8,[.nilFunc]⟩),
  (130,⟨false,1,8,[.nilFunc]⟩),
  (132,⟨false,1,8,[.nilFunc]⟩),
  (134,⟨false,1,8,[.nilFunc]⟩),
  (136,⟨false,1,8,[.nilFunc]⟩),
  (137,⟨false,1,8,[.nilFunc]⟩),
  (139,⟨false,1,8,[.int .u64 0]⟩),
  (142,⟨false,1,8,[.nilFunc]⟩),
  (143,⟨false,1,8,[.nilFunc]⟩),
  (144,⟨false,1,8,[.nilFunc]⟩),
  (145,⟨false,1,8,[.nilFunc]⟩),
  (146,⟨false,1,8,[.nilFunc]⟩),
  (147,⟨false,1,8,[.nilFunc]⟩),
  (149,⟨false,1,8,[.nilFunc]⟩),
  (150,⟨false,1,8,[.nilFunc]⟩),
  (152,⟨false,1,8,[.nilFunc]⟩),
  (153,⟨false,1,8,[.nilFunc]⟩),
  (154,⟨false,1,8,[.nilFunc]⟩),
  (155,⟨false,1,8,[.nilFunc]⟩),
  (156,⟨false,1,8,[.nilFunc]⟩),
  (157,⟨false,1,8,[.nilFunc]⟩),
  (158,⟨false,1,8,[.nilFunc]⟩),
  (161,⟨false,1,8,[.nilFunc]⟩),
  (165,⟨false,1,8,[.nilFunc]⟩),
  (167,⟨false,1,8,[.nilFunc]⟩),
  (168,⟨false,1,8,[.nilFunc]⟩),
  (169,⟨false,1,8,[.nilFunc]⟩),
  (170,⟨false,1,8,[.int .i64 0]⟩),
  (173,⟨false,1,8,[.nilFunc]⟩),
  (174,⟨false,1,8,[.nilFunc]⟩),
  (175,⟨false,1,8,[.nilFunc]⟩),
  (176,⟨false,1,8,[.nilFunc]⟩),
  (177,⟨false,1,8,[.nilFunc]⟩),
  (178,⟨false,1,4,[.int .u32 0]⟩),
  (180,⟨false,1,8,[.int .u64 0]⟩),
  (181,⟨false,1,8,[.nilFunc]⟩),
  (182,⟨false,1,8,[.nilFunc]⟩),
  (189,⟨false,1,8,[.nilFunc]⟩),
  (191,⟨false,1,8,[.nilFunc]⟩),
  (192,⟨false,1,8,[.nilFunc]⟩),
  (194,⟨false,1,8,[.nilFunc]⟩),
  (195,⟨false,1,8,[.nilFunc]⟩),
  (196,⟨false,1,8,[.nilFunc]⟩),
  (197,⟨false,1,8,[.int .u64 0]⟩),
  (198,⟨false,1,8,[.nilFunc]⟩),
  (203,⟨false,1,8,[.nilFunc]⟩),
  (206,⟨false,1,8,[.nilFunc]⟩),
  (207,⟨false,1,8,[.nilFunc]⟩),
  (208,⟨false,1,8,[.nilFunc]⟩),
  (209,⟨false,1,8,[.nilFunc]⟩),
  (210,⟨false,1,8,[.pointer none]⟩),
  (217,⟨true,4,40,[.pointer none,.pointer none,.pointer none,.string ⟨#[]⟩]⟩),
  (218,⟨true,4,40,[.pointer none,.pointer none,.pointer none,.string ⟨#[]⟩]⟩),
  (223,⟨false,1,1,[.int .u8 0]⟩),
  (224,⟨false,1,1,[.int .u8 0]⟩),
  (225,⟨false,1,8,[.nilFunc]⟩),
  (226,⟨false,1,8,[.pointer none]⟩),
  (227,⟨false,1,4,[.int .i32 0]⟩),
  (228,⟨false,1,4,[.int .i32 0]⟩),
  (229,⟨true,11,48,[.int .u64 0,.int .u64 0,.int .u32 0,.int .u8 0,.int .u8 0,.int .u8 0,.int .u8 0,.nilFunc,.pointer none,.int .i32 0,.int .i32 0]⟩),
  (230,⟨true,11,48,[.int .u64 0,.int .u64 0,.int .u32 0,.int .u8 0,.int .u8 0,.int .u8 0,.int .u8 0,.nilFunc,.pointer none,.int .i32 0,.int .i32 0]⟩)]
set_option maxRecDepth 8000 in
theorem zR5 : MJ (fun t i => ∃ inf z,Tryz.prog.info? t = some inf ∧ inf.size = i.size ∧ inf.bytes = i.bytes ∧ inf.zero = some z ∧ z.cells.toList = i.zero ∧ i.zero.length = i.size ∧ BM Tryz.prog t = some i.agg) yG8 :=
  ⟨tq (.nilFunc),tq (.int .i64 0),tq (.int .i64 0),tq (.bool false),tq (.int .u8 0),tq (.int .u8 0),tq (.agg #[.int .i64 0,.int .i64 0,.bool false,.int .u8 0]),tq (.agg #[.int .i64 0,.int .i64 0,.bool false,.int .u8 0]),tq (.string ⟨#[]⟩),tq (.string ⟨#[]⟩),tq (.string ⟨#[]⟩),tq (.int .u64 0),tq (.agg #[.string ⟨#[]⟩,.int .u64 0]),tq (.agg #[.string ⟨#[]⟩,.int .u64 0]),tq (.pointer none),tq (.pointer none),tq (.pointer none),tq (.agg #[.pointer none]),tq (.agg #[.pointer none]),tq (.int .i32 0),tq (.slice none 0 0),tq (.slice none 0 0),tq (.slice none 0 0),tq (.slice none 0 0),tq (.agg #[.slice none 0 0,.slice none 0 0,.slice none 0 0,.slice none 0 0]),tq (.agg #[.slice none 0 0,.slice none 0 0,.slice none 0 0,.slice none 0 0]),tq (.agg #[.int .i64 0,.int .i64 0,.int .i64 0,.int .i64 0]),tq (.agg #[.int .i64 0,.int .i64 0,.int .i64 0,.int .i64 0]),tq (.slice none 0 0),tq (.nilFunc),tq (.nilFunc),tq (.nilFunc),tq (.nilFunc),tq (.pointer none),tq (.int .i64 0),tq (.nilFunc),tq (.slice none 0 0),tq (.slice none 0 0),tq (.slice none 0 0),tq (.nilFunc),tq (.nilFunc),tq (.nilFunc),tq (.agg #[.int .i64 0,.int .i64 0,.int .i64 0,.int .i64 0,.slice none 0 0]),tq (.agg #[.int .i64 0,.int .i64 0,.int .i64 0,.int .i64 0,.slice none 0 0]),tq (.agg #[.int .i64 0,.int .i64 0,.int .i64 0,.int .i64 0]),tq (.agg #[.int .i64 0,.int .i64 0,.int .i64 0,.int .i64 0]),tq (.agg #[.bool false,.int .i64 0,.int .i64 0,.int .i64 0,.int .i64 0,.slice none 0 0,.int .i64 0,.int .i64 0,.int .i64 0,.int .i64 0]),tq (.agg #[.bool false,.int .i64 0,.int .i64 0,.int .i64 0,.int .i64 0,.slice none 0 0,.int .i64 0,.int .i64 0,.int .i64 0,.int .i64 0]),tq (.nilFunc),tq (.nilFunc),tq (.nilFunc),tq (.nilFunc),tq (.nilFunc),tq (.nilFunc),tq (.nilFunc),tq (.agg #[.int .i64 0,.int .i64 0,.int .i64 0]),tq (.agg #[.int .i64 0,.int .i64 0,.int .i64 0]),tq (.nilFunc),tq (.agg #[.slice none 0 0,.slice none 0 0,.int .i64 0,.slice none 0 0]),tq (.agg #[.slice none 0 0,.slice none 0 0,.int .i64 0,.slice none 0 0]),tq (.slice none 0 0),tq (.nilFunc),tq (.nilFunc),tq (.nilFunc),tq (.nilFunc),tq (.slice none 0 0),tq (.nilFunc),tq (.nilFunc),tq (.nilFunc),tq (.pointer none),tq (.nilFunc),tq (.nilFunc),tq (.agg #[.int .i64 0,.int .i64 0,.bool false]),tq (.agg #[.int .i64 0,.int .i64 0,.bool false]),tq (.nilFunc),tq (.slice none 0 0),tq (.agg #[.slice none 0 0,.slice none 0 0,.pointer none,.slice none 0 0,.slice none 0 0,.slice none 0 0]),tq (.agg #[.slice none 0 0,.slice none 0 0,.pointer none,.slice none 0 0,.slice none 0 0,.slice none 0 0]),tq (.agg #[.int .i64 0,.int .i64 0,.int .i64 0,.int .i64 0,.pointer none,.int .i64 0]),tq (.agg #[.int .i64 0,.int .i64 0,.int .i64 0,.int .i64 0,.pointer none,.int .i64 0]),tq (.nilFunc),tq (.nilFunc),tq (.nilFunc),tq (.nilFunc),tq (.nilFunc),tq (.nilFunc),tq (.nilFunc),tq (.nilFunc),tq (.agg #[.string ⟨#[]⟩,.int .i64 0]),tq (.agg #[.string ⟨#[]⟩,.int .i64 0]),tq (.nilFunc),tq (.slice none 0 0),tq (.agg #[.int .i64 0,.int .i64 0,.int .i64 0,.int .i64 0,.slice none 0 0,.slice none 0 0,.slice none 0 0,.slice none 0 0]),tq (.agg #[.int .i64 0,.int .i64 0,.int .i64 0,.int .i64 0,.slice none 0 0,.slice none 0 0,.slice none 0 0,.slice none 0 0]),tq (.agg #[.int .i64 0,.int .i64 0]),tq (.agg #[.int .i64 0,.int .i64 0]),tq (.slice none 0 0),tq (.agg #[.slice none 0 0,.int .i64 0,.slice none 0 0]),tq (.agg #[.slice none 0 0,.int .i64 0,.slice none 0 0]),tq (.slice none 0 0),tq (.agg #[.slice none 0 0,.slice none 0 0]),tq (.agg #[.slice none 0 0,.slice none 0 0]),tq (.nilFunc),tq (.nilFunc),tq (.nilFunc),tq (.nilFunc),tq (.nilFunc),tq (.nilFunc),tq (.nilFunc),tq (.nilFunc),tq (.nilFunc),tq (.nilFunc),tq (.nilFunc),tq (.nilFunc),tq (.nilFunc),tq (.nilFunc),tq (.nilFunc),tq (.nilFunc),tq (.nilFunc),tq (.nilFunc),tq (.nilFunc),tq (.nilFunc),tq (.nilFunc),tq (.nilFunc),tq (.nilFunc),tq (.int .u64 0),tq (.nilFunc),tq (.nilFunc),tq (.nilFunc),tq (.nilFunc),tq (.nilFunc),tq (.nilFunc),tq (.nilFunc),tq (.nilFunc),tq (.nilFunc),tq (.nilFunc),tq (.nilFunc),tq (.nilFunc),tq (.nilFunc),tq (.nilFunc),tq (.nilFunc),tq (.nilFunc),tq (.nilFunc),tq (.nilFunc),tq (.nilFunc),tq (.nilFunc),tq (.int .i64 0),tq (.nilFunc),tq (.nilFunc),tq (.nilFunc),tq (.nilFunc),tq (.nilFunc),tq (.int .u32 0),tq (.int .u64 0),tq (.nilFunc),tq (.nilFunc),tq (.nilFunc),tq (.nilFunc),tq (.nilFunc),tq (.nilFunc),tq (.nilFunc),tq (.nilFunc),tq (.int .u64 0),tq (.nilFunc),tq (.nilFunc),tq (.nilFunc),tq (.nilFunc),tq (.nilFunc),tq (.nilFunc),tq (.pointer none),tq (.agg #[.pointer none,.pointer none,.pointer none,.string ⟨#[]⟩]),tq (.agg #[.pointer none,.pointer none,.pointer none,.string ⟨#[]⟩]),tq (.int .u8 0),tq (.int .u8 0),tq (.nilFunc),tq (.pointer none),tq (.int .i32 0),tq (.int .i32 0),tq (.agg #[.int .u64 0,.int .u64 0,.int .u32 0,.int .u8 0,.int .u8 0,.int .u8 0,.int .u8 0,.nilFunc,.pointer none,.int .i32 0,.int .i32 0]),tq (.agg #[.int .u64 0,.int .u64 0,.int .u32 0,.int .u8 0,.int .u8 0,.int .u8 0,.int .u8 0,.nilFunc,.pointer none,.int .i32 0,.int .i32 0]),
   trivial⟩
def zQ2 : List (Nat × Nat) := [(22,96),(23,79),(24,3),(25,61),(30,51),(39,24),(40,4),(41,49),(65,64),(70,47),(81,85),(98,108),(103,102),(106,105)]
theorem ZB : MJ (fun t e => Tryz.prog.underlying t = some (.slice e)) zQ2 := ⟨kq,kq,kq,kq,kq,kq,kq,kq,kq,kq,kq,kq,kq,kq,trivial⟩
def yC5 : List (Nat × (Nat × Nat)) := [(219,(0,16))]
theorem zN9 : MJ (fun t p => Tryz.prog.underlying t = some (.array p.1 p.2)) yC5 := ⟨kq,trivial⟩
def PV : List (Nat × List (Nat × Nat)) := [(7,[(0,1),(1,1),(2,1),(3,1)]),(8,[(0,1),(1,1),(2,1),(3,1)]),(13,[(0,1),(1,1)]),(14,[(0,1),(1,1)]),(18,[(0,1)]),(19,[(0,1)]),(26,[(0,1),(1,1),(2,1),(3,1)]),(27,[(0,1),(1,1),(2,1),(3,1)]),(28,[(0,1),(1,1),(2,1),(3,1)]),(29,[(0,1),(1,1),(2,1),(3,1)]),(46,[(0,1),(1,1),(2,1),(3,1),(4,1)]),(47,[(0,1),(1,1),(2,1),(3,1),(4,1)]),(48,[(0,1),(1,1),(2,1),(3,1)]),(49,[(0,1),(1,1),(2,1),(3,1)]),(50,[(0,1),(1,5),(6,4)]),(51,[(0,1),(1,5),(6,4)]),(60,[(0,1),(1,1),(2,1)]),(61,[(0,1),(1,1),(2,1)]),(63,[(0,1),(1,1),(2,1),(3,1)]),(64,[(0,1),(1,1),(2,1),(3,1)]),(78,[(0,1),(1,1),(2,1)]),(79,[(0,1),(1,1),(2,1)]),(82,[(0,1),(1,1),(2,1),(3,1),(4,1),(5,1)]),(83,[(0,1),(1,1),(2,1),(3,1),(4,1),(5,1)]),(84,[(0,4),(4,1),(5,1)]),(85,[(0,4),(4,1),(5,1)]),(95,[(0,1),(1,1)]),(96,[(0,1),(1,1)]),(99,[(0,4),(4,1),(5,1),(6,1),(7,1)]),(100,[(0,4),(4,1),(5,1),(6,1),(7,1)]),(101,[(0,1),(1,1)]),(102,[(0,1),(1,1)]),(104,[(0,1),(1,1),(2,1)]),(105,[(0,1),(1,1),(2,1)]),(107,[(0,1),(1,1)]),(108,[(0,1),(1,1)]),(217,[(0,1),(1,1),(2,1),(3,1)]),(218,[(0,1),(1,1),(2,1),(3,1)]),(220,[(0,0)]),(221,[(0,0)]),(229,[(0,1),(1,1),(2,1),(3,1),(4,1),(5,1),(6,1),(7,1),(8,1),(9,1),(10,1)]),(230,[(0,1),(1,1),(2,1),(3,1),(4,1),(5,1),(6,1),(7,1),(8,1),(9,1),(10,1)])]
theorem NC : MJ (fun t l => FN Tryz.prog t = some l) PV := ⟨kq,kq,kq,kq,kq,kq,kq,kq,kq,kq,kq,kq,kq,kq,kq,kq,kq,kq,kq,kq,kq,kq,kq,kq,kq,kq,kq,kq,kq,kq,kq,kq,kq,kq,kq,kq,kq,kq,kq,kq,kq,kq,trivial⟩
def YX : List ((Nat × Nat) × Nat) := [((7,0),0),((7,1),1),((7,2),2),((7,3),3),((8,0),0),((8,1),1),((8,2),2),((8,3),3),((13,0),0),((13,1),1),((14,0),0),((14,1),1),((18,0),0),((19,0),0),((26,0),0),((26,1),1),((26,2),2),((26,3),3),((27,0),0),((27,1),1),((27,2),2),((27,3),3),((28,0),0),((28,1),1),((28,2),2),((28,3),3),((29,0),0),((29,1),1),((29,2),2),((29,3),3),((46,0),0),((46,1),1),((46,2),2),((46,3),3),((46,4),4),((47,0),0),((47,1),1),((47,2),2),((47,3),3),((47,4),4),((48,0),0),((48,1),1),((48,2),2),((48,3),3),((49,0),0),((49,1),1),((49,2),2),((49,3),3),((50,0),0),((50,1),1),((50,2),6),((51,0),0),((51,1),1),((51,2),6),((60,0),0),((60,1),1),((60,2),2),((61,0),0),((61,1),1),((61,2),2),((63,0),0),((63,1),1),((63,2),2),((63,3),3),((64,0),0),((64,1),1),((64,2),2),((64,3),3),((78,0),0),((78,1),1),((78,2),2),((79,0),0),((79,1),1),((79,2),2),((82,0),0),((82,1),1),((82,2),2),((82,3),3),((82,4),4),((82,5),5),((83,0),0),((83,1),1),((83,2),2),((83,3),3),((83,4),4),((83,5),5),((84,0),0),((84,1),4),((84,2),5),((85,0),0),((85,1),4),((85,2),5),((95,0),0),((95,1),1),((96,0),0),((96,1),1),((99,0),0),((99,1),4),((99,2),5),((99,3),6),((99,4),7),((100,0),0),((100,1),4),((100,2),5),((100,3),6),((100,4),7),((101,0),0),((101,1),1),((102,0),0),((102,1),1),((104,0),0),((104,1),1),((104,2),2),((105,0),0),((105,1),1),((105,2),2),((107,0),0),((107,1),1),((108,0),0),((108,1),1),((217,0),0),((217,1),1),((217,2),2),((217,3),3),((218,0),0),((218,1),1),((218,2),2),((218,3),3),((229,0),0),((229,1),1),((229,2),2),((229,3),3),((229,4),4),((229,5),5),((229,6),6),((229,7),7),((229,8),8),((229,9),9),((229,10),10),((230,0),0),((230,1),1),((230,2),2),((230,3),3),((230,4),4),((230,5),5),((230,6),6),((230,7),7),((230,8),8),((230,9),9),((230,10),10)]
theorem UB : MJ (fun (tf : Nat × Nat) o => ∃ fs fd inf,Tryz.prog.underlying tf.1 = some (.struct fs) ∧ fs[tf.2]? = some fd ∧ fd.offset = o ∧ Tryz.prog.info? fd.type = some inf ∧ inf.size ≠ 0) YX :=
  ⟨fq,fq,fq,fq,fq,fq,fq,fq,fq,fq,fq,fq,fq,fq,fq,fq,fq,fq,fq,fq,fq,fq,fq,fq,fq,fq,fq,fq,fq,fq,fq,fq,fq,fq,fq,fq,fq,fq,fq,fq,fq,fq,fq,fq,fq,fq,fq,fq,fq,qJ (n := 4) (by kernel_rfl),qJ (n := 3) (by kernel_rfl),fq,qJ (n := 4) (by kernel_rfl),qJ (n := 3) (by kernel_rfl),fq,fq,fq,fq,fq,fq,fq,fq,fq,fq,fq,fq,fq,fq,fq,fq,fq,fq,fq,fq,fq,fq,fq,fq,fq,fq,fq,fq,fq,fq,fq,fq,qJ (n := 3) (by kernel_rfl),fq,fq,qJ (n := 3) (by kernel_rfl),fq,fq,fq,fq,fq,fq,qJ (n := 3) (by kernel_rfl),fq,fq,fq,fq,qJ (n := 3) (by kernel_rfl),fq,fq,fq,fq,fq,fq,fq,fq,fq,fq,fq,fq,fq,fq,fq,fq,fq,fq,fq,fq,fq,fq,fq,fq,fq,fq,fq,fq,fq,fq,fq,fq,fq,fq,fq,fq,fq,fq,fq,fq,fq,fq,fq,fq,fq,fq,fq,fq,
   trivial⟩
theorem cO : Tryz.prog.follows .mixedOrders = true := by kernel_rfl
def T : oJ Tryz.prog where
  ti := AF yG8
  tiOk := fun _ _ h => zI zR5 h
  elem := AF zQ2
  elemOk := fun _ _ h => zI ZB h
  field := fun t f => FW YX t f
  fieldOk := fun _ _ _ h => DT UB h
  arr := AF yC5
  arrOk := fun _ _ _ h => zI zN9 h
  places := AF PV
  placesOk := fun _ _ h => zI NC h
abbrev ints (l : List Int) : List (List AV) := l.map fun n => [AV.i n]
theorem dU (l : List Int) : ∀ e,e ∈ ints l → e.length = 1 := by intro e he;obtain ⟨n,_,rfl⟩ := bC.1 he;rfl
theorem lO {l : List Int} {k : Nat} (h : k < l.length) : (ints l)[k]? = some [AV.i l[k]] := by simp [h]
abbrev BX := Int × Int × Int
abbrev LT := Int × Int × Bool
abbrev KD := ByteArray × Int
abbrev dR (l : List BX) : List (List AV) := l.map fun b => [AV.i b.1,AV.i b.2.1,AV.i b.2.2]
abbrev iS (l : List LT) : List (List AV) := l.map fun b => [AV.i b.1,AV.i b.2.1,AV.b b.2.2]
abbrev gN (l : List KD) : List (List AV) := l.map fun b => [AV.v (.string b.1),AV.i b.2]
theorem kG (l : List BX) : ∀ e,e ∈ dR l → e.length = 3 := by intro e he;obtain ⟨n,_,rfl⟩ := bC.1 he;rfl
theorem zH (l : List LT) : ∀ e,e ∈ iS l → e.length = 3 := by intro e he;obtain ⟨n,_,rfl⟩ := bC.1 he;rfl
theorem vQ (l : List KD) : ∀ e,e ∈ gN l → e.length = 2 := by intro e he;obtain ⟨n,_,rfl⟩ := bC.1 he;rfl
theorem EN {l : List BX} {k : Nat} (h : k < l.length) : (dR l)[k]? = some [AV.i l[k].1,AV.i l[k].2.1,AV.i l[k].2.2] := by simp [h]
theorem I8 {l : List LT} {k : Nat} (h : k < l.length) : (iS l)[k]? = some [AV.i l[k].1,AV.i l[k].2.1,AV.b l[k].2.2] := by simp [h]
theorem B4 {l : List KD} {k : Nat} (h : k < l.length) : (gN l)[k]? = some [AV.v (.string l[k].1),AV.i l[k].2] := by simp [h]
abbrev iE (m st er sl : Int) : AV := .agg [.i m,.i st,.i er,.i sl]
abbrev oG (k a b n : Int) (ids : List Int) : AV := .agg [.i k,.i a,.i b,.i n,.rowE (ints ids) 1]
theorem nB {a b : Bool} (h : a = b) : AV.b a = AV.b b := by rw [h]
def jA (n f t : Int) : Bool := decide (f ≤ n) && decide (n ≤ t)
def xG : List Int → Int → Int → Int
  | [],_,_ => -1
  | x :: r,v,k => if v = x then k else xG r v (k + 1)
theorem KM : ∀ (l : List Int) (v k : Int), 0 ≤ k → (0 ≤ xG l v k ↔ v ∈ l)
  | [],v,k,_ => by simp [xG]
  | x :: r,v,k,hk => by
    simp only [xG];split
    · rename_i e;subst e;simp [hk]
    · rename_i e;rw [KM r v (k + 1) (by omega)]
      simp [e]
theorem TP {l : List Int} {v : Int} {k : Nat} (h : k < l.length) : xG (l.drop k) v k = if v = l[k] then (k : Int) else xG (l.drop (k + 1)) v ((k + 1 : Nat) : Int) := by
  rw [aT h];simp [xG]
theorem Z5 : ∀ (n : Nat) (l : List Int), l.length = n → (∀ i : Nat, i < n → (i : Int) ∈ l) → ∀ x, x ∈ l → 0 ≤ x ∧ x < n
  | 0,l,hl,_,x,hx => by
    have : l = [] := bX hl;subst this;simp at hx
  | n + 1,l,hl,hm,x,hx => by
    have h1 := hm n (by omega)
    have h2 : (l.erase (n : Int)).length = n := by rw [lE h1];omega
    have h3 := Z5 n (l.erase (n : Int)) h2 (fun i hi => (lX (by omega)).2 (hm i (by omega)))
    by_cases e : x = n
    · omega
    · have := h3 x ((lX e).2 hx);omega
structure zD0 (ks : List KD) (ls : List LT) (ps : List Int) (bs : List BX) : Prop where
  n1 : 1 ≤ ps.length
  n8 : ps.length ≤ 8
  len : ps.length = bs.length
  k10 : ks.length ≤ 10
  l10 : ls.length ≤ 10
  k : ∀ (i : Nat) (h : i < ks.length),0 ≤ ks[i].2 ∧ ks[i].2 ≤ 1048576
  l : ∀ (i : Nat) (h : i < ls.length),0 ≤ ls[i].1 ∧ ls[i].1 < ks.length
  p : ∀ (i : Nat) (h : i < ps.length),0 ≤ ps[i] ∧ ps[i] < ps.length
  b : ∀ (i : Nat) (h : i < bs.length),-1 ≤ bs[i].1 ∧ bs[i].1 < ls.length ∧ 0 ≤ bs[i].2.1 ∧ bs[i].2.1 ≤ 20000 ∧ (bs[i].1 = -1 → bs[i].2.1 = 0) ∧ 0 ≤ bs[i].2.2 ∧ bs[i].2.2 ≤ 1073741824
def lS (m st er sl : Int) : Prop := 0 ≤ m ∧ m ≤ 1048576 ∧ 0 ≤ st ∧ st ≤ 1048576 ∧ 0 ≤ er ∧ er ≤ 1048576 ∧ 0 ≤ sl ∧ sl ≤ 1048576
def nI (ks : List KD) (ls : List LT) (lot : Int) : Int := if lot < 0 then 0 else (ks.getD (ls.getD lot.toNat (0,0,false)).1.toNat (⟨#[]⟩,0)).2
theorem PG {ks : List KD} {ls : List LT} {ps : List Int} {bs : List BX} (f : zD0 ks ls ps bs) {lot : Int} (h : lot < ls.length) : 0 ≤ nI ks ls lot ∧ nI ks ls lot ≤ 1048576 := by
  unfold nI;split
  · omega
  · have hl : lot.toNat < ls.length := by omega
    have h1 := f.l lot.toNat hl;have hk : ls[lot.toNat].1.toNat < ks.length := by omega
    have h2 := f.k _ hk;simp only [List.getD,aB hl,mS,aB hk];exact h2
def zD2 (st id k : Int) (ids : List Int) : Int := if k = 0 then (if (ids.length : Int) - (if id ∈ ids then 1 else 0) > st then 0 else if id ∈ ids then 0 else 1) else 0
def HC (st er sl id ct w k n : Int) (ids : List Int) : Bool :=
  if k = 0 then decide ((ids.length : Int) - (if id ∈ ids then 1 else 0) ≤ st)
  else if k = 1 then jA w (n - er) (n + er)
  else if k = 2 then decide (n - sl ≤ ct)
  else if k = 3 then decide (n = ct)
  else if k = 5 then decide (n = id)
  else true
def GQ (sl ct k n done : Int) : Bool := if k = 2 then jA done 0 ct && jA done (n - sl) (n + sl) else if k = 4 then decide (done = 0) || decide (done = 1) else decide (done = 0)
def S9 (l : List Int) (n : Int) (i : Nat) : Prop := 0 ≤ l.getD i 0 ∧ l.getD i 0 ≤ n - 1 ∧ (0 < i → l.getD (i - 1) 0 < l.getD i 0)
open Classical in
noncomputable def GZ (l : List Int) (n : Int) : Bool := decide (∀ i,i < l.length → S9 l n i)
end Go.Proofs.YtmmmeebiobjnbaaGreat
namespace Go.Proofs.YtmmmeebiobjnbaaGreat
open Go Go.Ab
attribute [local irreducible] VC AW cF aS
set_option maxHeartbeats 4000000
theorem oM (n f t : Int) : aS Tryz.prog 40 [.i n,.i f,.i t] [] (.b (jA n f t)) [] := by
  refine bW T Tryz.func40 rfl rfl rfl rfl ?_
  (repeat' (first|refine wS ?_|refine wR ?_|(refine rg 0 (aV ?_))|(refine rg 1 (dH rfl (vV (gO rfl rfl) (mV ?_)));refine bO rfl rfl ?_ ?_<;>(intro hb;rw [hb];(try simp only [nm] at hb);try (exfalso;omega));(all_goals first|(refine gT (mW rfl (gT (mW rfl (gT (vV (iF rfl rfl) ?_))))))|(iterate 3 refine gF ?_));(all_goals (refine pW rfl (aV ?_))))|refine nZ ?_));all_goals
    refine dC (.inl rfl) rfl (nB ?_);simp [jA];try omega
theorem xE (l : List Int) (v : Int) (hl : l.length ≤ 9223372036854775807) : aS Tryz.prog 59 [.rowE (ints l) 1,.i v] [] (.i (xG l v 0)) [] := by
  have hlen : (ints l).length = l.length := by simp
  refine bW T Tryz.func59 rfl rfl rfl rfl ?_
  (repeat' (first|refine wS ?_|refine wB ?_|(refine rg 0 (aV ?_))|(refine rg 1 (mW rfl (qW T rfl (mV ?_))))|refine nZ ?_));refine dQ (X := {k : Nat // k ≤ l.length ∧ xG l v 0 = xG (l.drop k) v k}) (fun k => [(0,.rowE (ints l) 1),(1,.i v),(7,.i (ints l).length),(8,.i k.1)]) (fun _ => []) (fun k => l.length - k.1) ⟨0,by simp,rfl⟩ (gM []) ?_
  rintro ⟨k,hk,hf⟩;dsimp only;by_cases hlt : k < l.length
  · have hd := TP (v := v) hlt
    repeat' (first|refine wS ?_|refine wB ?_|refine wK ?_|refine wR ?_|(refine wC rfl ?_ ?_<;>(intro hb;(try simp only [nm] at hb);try (exfalso;omega)))|(refine rg 2 (vV (aM rfl rfl) ?_))|(refine rg 3 (mW rfl (aV ?_)))|(refine rg 4 (dH rfl (mW rfl (vV (ix T rfl (by omega) (dU l) (lO (k := k) (by omega))) (lW T rfl (vV (dX rfl rfl) ?_))))))|(refine rg 5 (mW rfl (aV ?_)))|(refine rg 6 (vV (cC rfl rfl (by omega) (by omega)) (mV ?_)))|refine nZ ?_)
    · refine dC (.inl rfl) rfl ?_;rw [hf,hd,if_pos hb];rfl
    · refine ⟨⟨k + 1,by omega,?_⟩,by dsimp only;omega,gM []⟩
      rw [hf,hd,if_neg hb]
  · (repeat' (first|refine wS ?_|refine wR ?_|refine wE ?_|(refine wC rfl (fun hb => ?_) (fun hb => ?_) <;> (((try simp only [nm] at hb);try (exfalso;omega))))|(refine rg 2 (vV (aM rfl rfl) ?_))|(refine rg 7 (aV ?_))|(refine nZ ?_)));refine dC (.inl rfl) rfl ?_
    rw [hf,cY (by omega)];rfl
theorem xP (l : List Int) (v : Int) (hl : l.length ≤ 9223372036854775807) : aS Tryz.prog 42 [.rowE (ints l) 1,.i v] [] (.b (decide (v ∈ l))) [] := by
  refine bW T Tryz.func42 rfl rfl rfl rfl ?_
  (repeat' (first|refine wS ?_|refine wR ?_|(refine rg 0 (aV ?_))|(refine rg 1 (dH rfl (vV (kC (xE l v hl)) (vV (gO rfl rfl) (aV ?_)))))|refine nZ ?_));refine dC (.inl rfl) rfl (nB ?_)
  rw [EY];simp only [decide_eq_true_eq];exact KM l v 0 (by omega)
theorem VF {ks : List KD} {ls : List LT} {ps : List Int} {bs : List BX} (f : zD0 ks ls ps bs) {lot : Int} (h : lot < ls.length) : aS Tryz.prog 43 [.rowE (gN ks) 2,.rowE (iS ls) 3,.i lot] [] (.i (nI ks ls lot)) [] := by
  by_cases h0 : lot < 0
  · refine bW T Tryz.func43 rfl rfl rfl rfl ?_
    (repeat' (first|refine wS ?_|refine wR ?_|(refine wC rfl ?_ ?_<;>(intro hb;(try simp only [nm] at hb);try (exfalso;omega)))|(refine rg 0 (aV ?_))|(refine rg 1 (mW rfl (vV (aM rfl rfl) ?_)))|(refine rg 2 (aV ?_))|refine nZ ?_));refine dC (.inl rfl) rfl ?_
    unfold nI;rw [if_pos h0];rfl
  · have hl : lot.toNat < ls.length := by omega
    have h1 := f.l lot.toNat hl;have hk : ls[lot.toNat].1.toNat < ks.length := by omega
    have hkl : (gN ks).length = ks.length := by simp
    have hll : (iS ls).length = ls.length := by simp
    have e : nI ks ls lot = ks[ls[lot.toNat].1.toNat].2 := by
      unfold nI;rw [if_neg h0];simp only [List.getD,aB hl,mS,aB hk]
    refine bW T Tryz.func43 rfl rfl rfl rfl ?_
    (repeat' (first|refine wS ?_|refine wK ?_|refine wR ?_|(refine wC rfl ?_ ?_<;>(intro hb;(try simp only [nm] at hb);try (exfalso;omega)))|(refine rg 0 (aV ?_))|(refine rg 1 (mW rfl (vV (aM rfl rfl) ?_)))|(refine rg 3 (dH rfl (mW rfl (vV (ix T rfl (by omega) (zH ls) (I8 hl)) (iB T rfl (vV (ix T rfl (by omega) (vQ ks) (B4 hk)) (iB T rfl (aV ?_))))))))|refine nZ ?_));refine dC (.inl rfl) rfl ?_
    rw [e];rfl
theorem yC0 (m st er sl lot ct ta k a b n : Int) (ids : List Int) (done : Int) (h1 : 0 ≤ n ∧ n ≤ 1099511627776) (h2 : 0 ≤ sl ∧ sl ≤ 1048576) :
    aS Tryz.prog 44 [iE m st er sl,.agg [.i lot,.i ct,.i ta],oG k a b n ids,.i done] [] (.b (GQ sl ct k n done)) [] := by
  refine bW T Tryz.func44 rfl rfl rfl rfl ?_
  (repeat' (first|refine wS ?_|refine wB ?_|refine wK ?_|refine wR ?_|(refine wC rfl ?_ ?_<;>(intro hb;(try simp only [nm] at hb);try (exfalso;omega)))|(refine rg 0 (cD (cQ rfl rfl) rfl (cD (cQ rfl rfl) rfl (cD (cQ rfl rfl) rfl (aV ?_)))))|(refine rg 1 (GG T ?_))|(refine rg 2 (vV (dX rfl rfl) (aV ?_)))|(refine rg 3 (mW rfl (iB T rfl (vV (by exact fE rfl rfl (oM _ _ _) rfl rfl rfl) ?_)));refine mV ?_;refine bO rfl rfl ?_ ?_<;>(intro hb;rw [hb];(try simp only [nm] at hb);try (exfalso;omega));(all_goals first|(refine gT (mW rfl (gT (fW T rfl (gT (lW T rfl (gT (fW T rfl (gT (lV T ?_)))))))));refine gT (vV (cP rfl rfl (by omega) (by omega)) (gT (fW T rfl (gT (lW T rfl (gT (fW T rfl (gT (lV T ?_)))))))));refine gT (vV (cC rfl rfl (by omega) (by omega)) (gT (vV (by exact fE rfl rfl (oM _ _ _) rfl rfl rfl) ?_))))|(iterate 12 refine gF ?_));(all_goals (refine pW rfl (aV ?_))))|(refine rg 4 (vV (dX rfl rfl) (aV ?_)))|(refine rg 5 (mW rfl (vV (dX rfl rfl) (mV ?_)));refine bO rfl rfl ?_ ?_<;>(intro hb;rw [hb];(try simp only [nm] at hb);try (exfalso;omega));(all_goals first|(refine gT (mW rfl (gT (vV (dX rfl rfl) ?_))))|(iterate 2 refine gF ?_));(all_goals (refine pW rfl (aV ?_))))|(refine rg 6 (mW rfl (vV (dX rfl rfl) (aV ?_))))|refine nZ ?_));all_goals
    refine dC (.inl rfl) rfl (nB ?_);simp [GQ, *]
theorem zJ (l : List Int) : (ints l).flatten.all AV.one = true := by
  rw [bI];intro x hx;obtain ⟨e,he,hx⟩ := zO4.1 hx;obtain ⟨p,_,rfl⟩ := bC.1 he;simp at hx;subst hx;rfl
theorem UK (l : List BX) : (dR l).flatten.all AV.one = true := by
  rw [bI];intro x hx;obtain ⟨e,he,hx⟩ := zO4.1 hx;obtain ⟨p,_,rfl⟩ := bC.1 he;simp at hx;rcases hx with rfl | rfl | rfl <;> rfl
theorem zE0 {a c : Int} {e e' : Bool} (h1 : a = c) (h3 : e = e') : AV.tup [.i a,.b e] = AV.tup [.i c,.b e'] := by rw [h1,h3]
theorem LU {ks : List KD} {ls : List LT} {ps : List Int} {bs : List BX} (f : zD0 ks ls ps bs) {m st er sl k a b n : Int} {ids : List Int} {id lot ct ta : Int} (hs : lS m st er sl) (ha : 0 ≤ a) (hn : 0 ≤ n ∧ n ≤ 1099511627776) (hl : ids.length ≤ 9223372036854775807)
    (hid : ps[a.toNat]? = some id) (hbx : bs[id.toNat]? = some (lot,ct,ta)) :
    aS Tryz.prog 19 [iE m st er sl,.rowE (gN ks) 2,.rowE (iS ls) 3,.rowE (ints ps) 1,.rowE (dR bs) 3,oG k a b n ids] [] (.tup [.i (zD2 st id k ids),.b (HC st er sl id ct (ta + ct * nI ks ls lot) k n ids)]) [] := by
  unfold lS at hs;have hc1 : (ints ps)[a.toNat]? = some [AV.i id] := by simp [hid]
  have hc2 : (dR bs)[id.toNat]? = some [AV.i lot,AV.i ct,AV.i ta] := by simp [hbx]
  obtain ⟨hx1,hx2⟩ := aA.1 hid;obtain ⟨hy1,hy2⟩ := aA.1 hbx;have hp := f.p _ hx1;rw [hx2] at hp;have hb0 := f.b _ hy1;rw [hy2] at hb0;simp only at hb0;have hu := PG f hb0.2.1;have hcu := VF f hb0.2.1;have b1 : 0 ≤ ct * nI ks ls lot := Int.mul_nonneg hb0.2.2.1 hu.1;have b2 : ct * nI ks ls lot ≤ 20000 * 1048576 := H2 (Int.mul_le_mul_of_nonneg_right hb0.2.2.2.1 hu.1) (Int.mul_le_mul_of_nonneg_left hu.2 (by omega))
  have hcc := xP ids id hl;have hil : (ints ids).length = ids.length := by simp
  generalize hU : nI ks ls lot = U at *;refine bW T Tryz.func19 rfl rfl rfl rfl ?_
  (repeat' (first|refine wS ?_|refine wB ?_|refine wK ?_|refine wR ?_|(refine wC rfl ?_ ?_<;>(intro hb;(try simp only [nm] at hb);try (exfalso;omega)))|(refine rg 0 (cD (cQ rfl rfl) rfl (cD (cQ rfl rfl) rfl (rK ?_))))|(refine rg 1 (mW rfl (iB T rfl (vV (ix T rfl (by omega) (dU ps) hc1) (lW T rfl (aV ?_))))))|(refine rg 2 (dH rfl (vV (ix T rfl (by omega) (kG bs) hc2) (lW T rfl (cD (cK T rfl) rfl (bA T rfl rfl rfl rfl rfl rfl (by decide) rfl ?_))))))|(refine rg 3 (GG T ?_))|(refine rg 4 (vV (dX rfl rfl) (aV ?_)))|(refine rg 5 (iB T rfl (qW T rfl (aV ?_))))|(refine rg 6 (iB T rfl (mW rfl (vV (kC (hcc)) ?_))))|(refine rg 7 (mW rfl (vV (cP rfl rfl (by omega) (by omega)) (aV ?_))))|(refine rg 8 (aV ?_))|(refine rg 9 (mW rfl (iB T rfl (vV (eU rfl rfl) ?_))))|(refine rg 10 (rK ?_))|(refine rg 11 (mW rfl (rK ?_)))|(refine rg 12 (vV (dX rfl rfl) (aV ?_)))|(refine cH (id := 13) 91 [[],[0],[],[2],[],[],[],[6],rM 4 4,rM 2 7,rN 10,[],[11],[],[13],rM 11 4,[],[16],[],[18],rM 16 4,rN 21,rN 22] [46,47,48,49,50,51,52,53,54,55,56,57,58,59,60,61,62,63,64,65,66,67,12] [[],[],[46,47],[46,47],rM 46 4,rM 46 5,rM 46 6,rM 46 6,rM 46 4,[46,47],[],rM 46 11,rM 46 11,rM 46 13,rM 46 13,rM 46 11,rM 46 16,rM 46 16,rM 46 18,rM 46 18,rM 46 16,[],[]] cO rfl (by decide +kernel) (dP T rfl (dO T rfl (dP T rfl (dO T rfl (dN rfl (dN rfl (dP T rfl (dO T rfl (dV rfl (kC (hcu)) ?_)))))))));refine dV rfl (xJ rfl rfl (by omega) (by omega)) (dV rfl (cC rfl rfl (by omega) (by omega)) (dP T rfl (dO T rfl (dP T rfl (dO T rfl (dV rfl (cP rfl rfl (by omega) (by omega)) (dP T rfl (dO T rfl (dF T ?_)))))))));refine dO T rfl (dV rfl (cC rfl rfl (by omega) (by omega)) (dV rfl (by exact fE rfl rfl (oM _ _ _) rfl rfl rfl) ?_));refine dV rfl (dJ rfl) (dE ?_);refine aV ?_)|(refine rg 14 (vV (dX rfl rfl) (aV ?_)))|(refine cH (id := 15) 91 [[],[0],[],[2],rN 4,[],[5],rN 7,[]] [70,71,72,73,74,75,76,77,12] [[],[],[70,71],[70,71],[],rM 70 5,rM 70 5,[],rM 70 8] cO rfl (by decide +kernel) (dP T rfl (dO T rfl (dP T rfl (dO T rfl (dV rfl (cP rfl rfl (by omega) (by omega)) (dP T rfl (dO T rfl (dV rfl (iF rfl rfl) (dV rfl (dJ rfl) ?_)))))))));refine dE ?_;refine aV ?_)|(refine rg 16 (vV (dX rfl rfl) (aV ?_)))|(refine cH (id := 17) 91 [[],[0],[],[2],rN 4,[]] [80,81,82,83,84,12] [[],[],[80,81],[80,81],[],rM 80 5] cO rfl (by decide +kernel) (dP T rfl (dO T rfl (dP T rfl (dO T rfl (dV rfl (dX rfl rfl) (dV rfl (dJ rfl) (dE ?_)))))));refine aV ?_)|(refine rg 18 (vV (dX rfl rfl) (aV ?_)))|(refine cH (id := 19) 91 [[],[0],[],[0,1,2],[]] [87,88,89,90,12] [[],[],[87,88],[],rM 87 4] cO rfl (by decide +kernel) (dP T rfl (dO T rfl (dN rfl (dV rfl (dX rfl rfl) (dV rfl (dJ rfl) (dE ?_))))));refine aV ?_)|(refine rg 20 (rK ?_))|refine nZ ?_));all_goals
    refine dC (.inl rfl) rfl (zE0 ?_ ?_)
    all_goals (simp [zD2,HC, *];try omega)
end Go.Proofs.YtmmmeebiobjnbaaGreat
namespace Go.Proofs.YtmmmeebiobjnbaaGreat
open Go Go.Ab
attribute [local irreducible] VC AW cF aS
abbrev mX (f t : Int) : AV := .agg [.i f,.i t]
def zO (f t : Int) : Bool := decide (max f 0 < min t 20001)
def GM (f t : Int) : Int := if zO f t then max f 0 else 0
def cutT (f t : Int) : Int := if zO f t then min t 20001 else 0
theorem BA (f t : Int) : (zO f t = true ∧ GM f t = max f 0 ∧ cutT f t = min t 20001 ∧ max f 0 < min t 20001) ∨ (zO f t = false ∧ GM f t = 0 ∧ cutT f t = 0 ∧ min t 20001 ≤ max f 0) := by
  by_cases h : max f 0 < min t 20001
  · left;simp [zO,GM,cutT,h]
  · right;simp only [zO,GM,cutT,h];simp;omega
theorem WA {a b c d : Int} {e e' : Bool} (h1 : a = c) (h2 : b = d) (h3 : e = e') : AV.tup [mX a b,.b e] = AV.tup [mX c d,.b e'] := by rw [h1,h2,h3]
theorem FL (f t : Int) : aS Tryz.prog 127 [mX f t] [] (.tup [mX (GM f t) (cutT f t),.b (zO f t)]) [] := by
  refine bW T Tryz.func127 rfl rfl rfl rfl ?_
  (repeat' (first|(first|(refine eT ?_)|(refine qN ?_)|(refine uL ?_)|(refine rE ?_))|(first|(refine vV (by first|exact dJ rfl|exact bF T rfl rfl rfl|exact aJ T rfl rfl rfl rfl|exact gO rfl rfl|exact zM rfl rfl|exact GF rfl rfl|exact eS T rfl rfl rfl rfl) ?_)|(refine bA T rfl rfl rfl rfl rfl rfl (by decide) rfl ?_)|(refine iK ?_)|(refine cD (by first|exact cK T rfl|exact cQ rfl rfl) rfl ?_))|((refine sG rfl (fun hb=>?_) (fun hb=>?_)<;>(try simp only [nm] at hb)))));all_goals
    refine dC (.inl rfl) rfl ?_;rcases BA f t with ⟨h1,h2,h3,h4⟩ | ⟨h1,h2,h3,h4⟩
    all_goals (first | (exfalso;omega) | (rw [h1,h2,h3];refine WA ?_ ?_ ?_ <;> first | rfl | omega))
def vT (f t n : Int) : Bool := decide (f ≤ n) && decide (n < t)
theorem zF8 (f t n : Int) : aS Tryz.prog 90 [mX f t,.i n] [] (.b (vT f t n)) [] := by
  refine bW T Tryz.func90 rfl rfl rfl rfl ?_
  (repeat' (first|(first|(refine eT ?_)|(refine qN ?_)|(refine rE ?_))|(first|(refine vV (by first|exact bN rfl|exact dJ rfl|exact bF T rfl rfl rfl|exact aJ T rfl rfl rfl rfl|exact iT rfl rfl|exact fD rfl rfl|exact aM rfl rfl|exact iF rfl rfl) ?_)|(refine iK ?_)|(refine CN rfl rfl ?_ rfl)|(refine CO rfl rfl ?_ rfl)|(refine sN rfl rfl (fun hb=>?_) (fun hb=>?_) rfl<;>(rw [hb];(try simp only [nm] at hb)))|(refine cD (cQ rfl rfl) rfl ?_))));all_goals
    refine dC (.inl rfl) rfl (nB ?_);simp [vT];try omega
theorem zJ3 (a b c d : Int) : aS Tryz.prog 88 [mX a b,mX c d] [] (.tup [mX (GM (max a c) (min b d)) (cutT (max a c) (min b d)),.b (zO (max a c) (min b d))]) [] := by
  refine bW T Tryz.func88 rfl rfl rfl rfl ?_
  (repeat' (first|(first|(refine eT ?_)|(refine qN ?_)|(refine rE ?_))|(first|(refine vV (by first|exact dJ rfl|exact bF T rfl rfl rfl|exact aJ T rfl rfl rfl rfl|exact jU rfl rfl|exact zM rfl rfl|exact GF rfl rfl|exact eS T rfl rfl rfl rfl|exact fE rfl rfl (FL _ _) rfl rfl rfl) ?_)|(refine bA T rfl rfl rfl rfl rfl rfl (by decide) rfl ?_)|(refine iK ?_)|(refine cD (by first|exact cK T rfl|exact cQ rfl rfl) rfl ?_))));refine rQ
theorem zF9 : aS Tryz.prog 126 [] [] (mX 0 20001) [] := by
  refine bW T Tryz.func126 rfl rfl rfl rfl ?_
  (repeat' (first|(first|(refine eT ?_)|(refine qN ?_)|(refine rE ?_))|(first|(refine vV (by exact eS T rfl rfl rfl rfl) ?_)|(refine bA T rfl rfl rfl rfl rfl rfl (by decide) rfl ?_)|(refine iK ?_)|(refine cD (cK T rfl) rfl ?_))));refine rQ
def vW (l : List Int) : Bool := l.all fun n => decide (0 ≤ n) && decide (n ≤ 1099511627776)
theorem NT (l : List Int) (k : Nat) (h : k < l.length) : vW (l.drop k) = (decide (0 ≤ l[k]) && decide (l[k] ≤ 1099511627776) && vW (l.drop (k + 1))) := by
  rw [aT h];rfl
theorem I5 (l : List Int) (hm : l.length ≤ 1000) : aS Tryz.prog 125 [.rowE (ints l) 1] [] (.b (vW l)) [] := by
  refine bW T Tryz.func125 rfl rfl rfl rfl ?_
  (repeat' (first|(first|(refine eT ?_)|(refine qN ?_)|(refine wD ?_))|(first|(refine vV (by first|exact bN rfl|exact dJ rfl|exact lK T rfl rfl) ?_)|(refine iK ?_))));refine dQ (X := {k : Nat // k ≤ (ints l).length ∧ vW l = vW (l.drop k)}) (fun k => [(5,.rowE (ints l) 1),(6,.i (ints l).length),(7,.i k.1)]) (fun _ => []) (fun k => (ints l).length - k.1) ⟨0,by simp,rfl⟩ (gM []) ?_
  rintro ⟨k,hk,hf⟩;dsimp only;have hlen : (ints l).length = l.length := by simp
  repeat' (first|(first|(refine eT ?_)|(refine qN ?_)|(refine wD ?_)|(refine uL ?_)|(refine rE ?_)|(refine RH ?_))|(first|(refine vV (by first|exact dJ rfl|exact aM rfl rfl) ?_)|(refine iK ?_))|((refine sG rfl (fun hb=>?_) (fun hb=>?_)<;>(try simp only [nm] at hb))))
  · have hlt : k < l.length := by omega
    have hs := NT l k hlt;refine yS (J6 T rfl rfl rfl rfl rfl (by omega) (dU l) (lO hlt)) rfl ?_
    (repeat' (first|(first|(refine eT ?_)|(refine qN ?_)|(refine uL ?_)|(refine rE ?_))|(first|(refine vV (by first|exact bN rfl|exact dJ rfl|exact aJ T rfl rfl rfl rfl|exact iT rfl rfl|exact fD rfl rfl|exact cC rfl rfl (by omega) (by omega)|exact aM rfl rfl|exact eU rfl rfl) ?_)|(refine iK ?_)|(refine CN rfl rfl ?_ rfl)|(refine CO rfl rfl ?_ rfl)|(refine sN rfl rfl (fun hb=>?_) (fun hb=>?_) rfl<;>(rw [hb];(try simp only [nm] at hb))))|(first|(refine wT ?_)|(refine sG rfl (fun hb=>?_) (fun hb=>?_)<;>(try simp only [nm] at hb)))));all_goals first
      | (refine dC (.inl rfl) rfl (nB ?_);rw [hf,hs];simp;omega)
      | (refine ⟨⟨k + 1,by omega,?_⟩,by simp;omega,gM []⟩;rw [hf,hs];simp;omega)
  · refine dC (.inl rfl) rfl (nB ?_);rw [hf,cY (by omega)];rfl
theorem YT {a b : Int} (h : 0 ≤ a ∧ a ≤ 1099511627776 ∧ 0 ≤ b ∧ b ≤ 1099511627776) : vW [a,b] = true := by simp [vW];omega
theorem YV {a b : Int} (h : ¬ (0 ≤ a ∧ a ≤ 1099511627776 ∧ 0 ≤ b ∧ b ≤ 1099511627776)) : vW [a,b] = false := by
  rw [← eO];simp [vW];omega
theorem YS {a b c d : Int} (h : 0 ≤ a ∧ a ≤ 1099511627776 ∧ 0 ≤ b ∧ b ≤ 1099511627776 ∧ 0 ≤ c ∧ c ≤ 1099511627776 ∧ 0 ≤ d ∧ d ≤ 1099511627776) : vW [a,b,c,d] = true := by simp [vW];omega
theorem YU {a b c d : Int} (h : ¬ (0 ≤ a ∧ a ≤ 1099511627776 ∧ 0 ≤ b ∧ b ≤ 1099511627776 ∧ 0 ≤ c ∧ c ≤ 1099511627776 ∧ 0 ≤ d ∧ d ≤ 1099511627776)) : vW [a,b,c,d] = false := by
  rw [← eO];simp [vW];omega
theorem zL0 {a b : Int} (h : 0 ≤ a ∧ a ≤ 1099511627776 ∧ 0 ≤ b ∧ b ≤ 1099511627776) : aS Tryz.prog 125 [.rowE (ints [a,b]) 1] [] (.b true) [] := YT h ▸ I5 [a,b] (by simp)
theorem zL2 {a b : Int} (h : ¬ (0 ≤ a ∧ a ≤ 1099511627776 ∧ 0 ≤ b ∧ b ≤ 1099511627776)) : aS Tryz.prog 125 [.rowE (ints [a,b]) 1] [] (.b false) [] := YV h ▸ I5 [a,b] (by simp)
theorem GH {a b c d : Int} (h : 0 ≤ a ∧ a ≤ 1099511627776 ∧ 0 ≤ b ∧ b ≤ 1099511627776 ∧ 0 ≤ c ∧ c ≤ 1099511627776 ∧ 0 ≤ d ∧ d ≤ 1099511627776) : aS Tryz.prog 125 [.rowE (ints [a,b,c,d]) 1] [] (.b true) [] := YS h ▸ I5 [a,b,c,d] (by simp)
theorem zL1 {a b c d : Int} (h : ¬ (0 ≤ a ∧ a ≤ 1099511627776 ∧ 0 ≤ b ∧ b ≤ 1099511627776 ∧ 0 ≤ c ∧ c ≤ 1099511627776 ∧ 0 ≤ d ∧ d ≤ 1099511627776)) : aS Tryz.prog 125 [.rowE (ints [a,b,c,d]) 1] [] (.b false) [] := YU h ▸ I5 [a,b,c,d] (by simp)
theorem SO (f t n s : Int) (hf : 0 ≤ f ∧ f ≤ 20001 ∧ 0 ≤ t ∧ t ≤ 20001) (h : 0 ≤ n ∧ n ≤ 1099511627776 ∧ 0 ≤ s ∧ s ≤ 1099511627776) : aS Tryz.prog 89 [mX f t,.i n,.i s] [] (.tup [mX (GM (f - n - s) (t - max (n - s) 0)) (cutT (f - n - s) (t - max (n - s) 0)),.b (zO (f - n - s) (t - max (n - s) 0))]) [] := by
  refine bW T Tryz.func89 rfl rfl rfl rfl ?_
  (repeat' (first|(first|(refine eT ?_)|(refine qN ?_)|(refine uL ?_)|(refine rE ?_))|(first|(refine vV (by first|exact bN rfl|exact dJ rfl|exact bF T rfl rfl rfl|exact aJ T rfl rfl rfl rfl|exact cP rfl rfl (by omega) (by omega)|exact dI rfl|exact jU rfl rfl|exact zM rfl rfl|exact eS T rfl rfl rfl rfl|exact fE rfl rfl (FL _ _) rfl rfl rfl|exact fB rfl rfl (zL0 h) (by ((repeat (first|exact .nil|exact .v _|refine .cons ?_ ?_|refine .sl rfl (by simp) ?_));done)) rfl rfl) ?_)|(refine bA T rfl rfl rfl rfl rfl rfl (by decide) rfl ?_)|(refine iK ?_)|(refine cD (by first|exact cK T rfl|exact cQ rfl rfl|exact bD T rfl rfl (by decide) (by decide) rfl rfl rfl) rfl ?_))|((refine wU ?_))));exact rQ
theorem ND (f t n s : Int) (h : ¬ (0 ≤ n ∧ n ≤ 1099511627776 ∧ 0 ≤ s ∧ s ≤ 1099511627776)) : aS Tryz.prog 89 [mX f t,.i n,.i s] [] (.tup [mX 0 0,.b false]) [] := by
  refine bW T Tryz.func89 rfl rfl rfl rfl ?_
  (repeat' (first|(first|(refine eT ?_)|(refine qN ?_)|(refine rE ?_))|(first|(refine vV (by first|exact bN rfl|exact dJ rfl|exact dI rfl|exact eS T rfl rfl rfl rfl|exact fB rfl rfl (zL2 h) (by ((repeat (first|exact .nil|exact .v _|refine .cons ?_ ?_|refine .sl rfl (by simp) ?_));done)) rfl rfl) ?_)|(refine bA T rfl rfl rfl rfl rfl rfl (by decide) rfl ?_)|(refine iK ?_)|(refine cD (by first|exact cK T rfl|exact cQ rfl rfl|exact bD T rfl rfl (by decide) (by decide) rfl rfl rfl) rfl ?_))|((refine wT ?_))));exact rQ
def GI (a b c d : Int) : Prop := 0 ≤ a ∧ a ≤ 1099511627776 ∧ 0 ≤ b ∧ b ≤ 1099511627776 ∧ 0 ≤ c ∧ c ≤ 1099511627776 ∧ 0 ≤ d ∧ d ≤ 1099511627776
theorem MP (t u w e : Int) (h : ¬ GI t u w e) : aS Tryz.prog 87 [.i t,.i u,.i w,.i e] [] (.tup [mX 0 0,.b false]) [] := by
  refine bW T Tryz.func87 rfl rfl rfl rfl ?_
  (repeat' (first|(first|(refine eT ?_)|(refine qN ?_)|(refine rE ?_))|(first|(refine vV (by first|exact bN rfl|exact dJ rfl|exact dI rfl|exact eS T rfl rfl rfl rfl|exact fB rfl rfl (zL1 h) (by ((repeat (first|exact .nil|exact .v _|refine .cons ?_ ?_|refine .sl rfl (by simp) ?_));done)) rfl rfl) ?_)|(refine bA T rfl rfl rfl rfl rfl rfl (by decide) rfl ?_)|(refine iK ?_)|(refine cD (by first|exact cK T rfl|exact bD T rfl rfl (by decide) (by decide) rfl rfl rfl) rfl ?_))|((refine wT ?_))));exact rQ
theorem HW (t u w e : Int) (h : GI t u w e) (h1 : w + e - t < 0 ∨ u = 0 ∧ 0 < w - e - t) : aS Tryz.prog 87 [.i t,.i u,.i w,.i e] [] (.tup [mX 0 0,.b false]) [] := by
  have h' := h;unfold GI at h';refine bW T Tryz.func87 rfl rfl rfl rfl ?_
  (repeat' (first|(first|(refine eT ?_)|(refine qN ?_)|(refine wD ?_)|(refine uL ?_)|(refine rE ?_))|(first|(refine vV (by first|exact bN rfl|exact dJ rfl|exact iT rfl rfl|exact fD rfl rfl|exact cC rfl rfl (by omega) (by omega)|exact cP rfl rfl (by omega) (by omega)|exact aM rfl rfl|exact eU rfl rfl|exact dX rfl rfl|exact dI rfl|exact eS T rfl rfl rfl rfl|exact fB rfl rfl (GH h) (by ((repeat (first|exact .nil|exact .v _|refine .cons ?_ ?_|refine .sl rfl (by simp) ?_));done)) rfl rfl) ?_)|(refine bA T rfl rfl rfl rfl rfl rfl (by decide) rfl ?_)|(refine iK ?_)|(refine CN rfl rfl ?_ rfl)|(refine CO rfl rfl ?_ rfl)|(refine PB rfl rfl ?_ rfl)|(refine sN rfl rfl (fun hb=>?_) (fun hb=>?_) rfl<;>(rw [hb];(try simp only [nm] at hb)))|(refine cD (by first|exact cK T rfl|exact bD T rfl rfl (by decide) (by decide) rfl rfl rfl) rfl ?_))|(first|(refine wT ?_)|(refine wU ?_)|(refine sG rfl (fun hb=>?_) (fun hb=>?_)<;>(try simp only [nm] at hb)))));all_goals first | (exfalso;omega) | exact rQ | skip
theorem HX (t u w e : Int) (h : GI t u w e) (h1 : 0 ≤ w + e - t) (h2 : u = 0) (h3 : w - e - t ≤ 0) : aS Tryz.prog 87 [.i t,.i u,.i w,.i e] [] (.tup [mX 0 20001,.b true]) [] := by
  have h' := h;unfold GI at h';refine bW T Tryz.func87 rfl rfl rfl rfl ?_
  (repeat' (first|(first|(refine eT ?_)|(refine qN ?_)|(refine wD ?_)|(refine uL ?_)|(refine rE ?_))|(first|(refine vV (by first|exact bN rfl|exact dJ rfl|exact iT rfl rfl|exact fD rfl rfl|exact cC rfl rfl (by omega) (by omega)|exact cP rfl rfl (by omega) (by omega)|exact aM rfl rfl|exact eU rfl rfl|exact dX rfl rfl|exact dI rfl|exact eS T rfl rfl rfl rfl|exact fB rfl rfl (GH h) (by ((repeat (first|exact .nil|exact .v _|refine .cons ?_ ?_|refine .sl rfl (by simp) ?_));done)) rfl rfl|exact kC (zF9)) ?_)|(refine bA T rfl rfl rfl rfl rfl rfl (by decide) rfl ?_)|(refine iK ?_)|(refine CN rfl rfl ?_ rfl)|(refine CO rfl rfl ?_ rfl)|(refine PB rfl rfl ?_ rfl)|(refine sN rfl rfl (fun hb=>?_) (fun hb=>?_) rfl<;>(rw [hb];(try simp only [nm] at hb)))|(refine cD (by first|exact cK T rfl|exact bD T rfl rfl (by decide) (by decide) rfl rfl rfl) rfl ?_))|(first|(refine wT ?_)|(refine wU ?_)|(refine sG rfl (fun hb=>?_) (fun hb=>?_)<;>(try simp only [nm] at hb)))));all_goals first | exact rQ | (exfalso;omega)
def zY6 (t u w e : Int) : Int := (max (w - e - t) 0 + u - 1) / u
def zY5 (t u w e : Int) : Int := (w + e - t) / u + 1
set_option maxHeartbeats 1000000 in
theorem MQ (t u w e : Int) (h : GI t u w e) (h1 : 0 ≤ w + e - t) (h2 : 0 < u) : aS Tryz.prog 87 [.i t,.i u,.i w,.i e] [] (.tup [mX (GM (zY6 t u w e) (zY5 t u w e)) (cutT (zY6 t u w e) (zY5 t u w e)),.b (zO (zY6 t u w e) (zY5 t u w e))]) [] := by
  have h' := h;unfold GI at h';have q1 := Int.ediv_nonneg h1 (Int.le_of_lt h2);have q2 := Int.ediv_le_self u h1;refine bW T Tryz.func87 rfl rfl rfl rfl ?_
  (repeat' (first|(first|(refine eT ?_)|(refine qN ?_)|(refine wD ?_)|(refine uL ?_)|(refine rE ?_))|(first|(refine vV (by first|exact bN rfl|exact dJ rfl|exact iT rfl rfl|exact fD rfl rfl|exact cC rfl rfl (by omega) (by omega)|exact cP rfl rfl (by omega) (by omega)|exact aM rfl rfl|exact eU rfl rfl|exact dX rfl rfl|exact dI rfl|exact eS T rfl rfl rfl rfl|exact fB rfl rfl (GH h) (by ((repeat (first|exact .nil|exact .v _|refine .cons ?_ ?_|refine .sl rfl (by simp) ?_));done)) rfl rfl) ?_)|(refine bA T rfl rfl rfl rfl rfl rfl (by decide) rfl ?_)|(refine iK ?_)|(refine CN rfl rfl ?_ rfl)|(refine CO rfl rfl ?_ rfl)|(refine PB rfl rfl ?_ rfl)|(refine sN rfl rfl (fun hb=>?_) (fun hb=>?_) rfl<;>(rw [hb];(try simp only [nm] at hb)))|(refine cD (by first|exact cK T rfl|exact bD T rfl rfl (by decide) (by decide) rfl rfl rfl) rfl ?_))|(first|(refine dV rfl (by first|exact bN rfl|exact cC rfl rfl (by omega) (by omega)|exact cP rfl rfl (by omega) (by omega)|exact zJ9 rfl rfl (by omega) (by omega) (by omega)|exact jU rfl rfl|exact zM rfl rfl|exact eS T rfl rfl rfl rfl|exact fE rfl rfl (FL _ _) rfl rfl rfl) ?_)|(refine AZ rfl rfl (by (dsimp only [List.nil_append,List.cons_append,mR,List.append_nil];done)) ?_))|(refine LQ (id := 8) [[],[0],[],[0,1,2],rN 4,[],rN 6,[],[],[7,8],[7,8,9],rN 11,rN 12,rN 13,rN 13] (rM 46 15) [[],[],[46,47],[],[],rM 46 5,[],rM 46 7,rM 46 8,rM 46 7,rM 46 7,[],[],[],[59]] cO (by decide +kernel) ?_)|(first|(refine wT ?_)|(refine wU ?_)|(refine sG rfl (fun hb=>?_) (fun hb=>?_)<;>(try simp only [nm] at hb)))));all_goals first | (exfalso;omega) | exact rQ
end Go.Proofs.YtmmmeebiobjnbaaGreat
namespace Go.Ld
open Go.Ab Go.Proofs.YtmmmeebiobjnbaaGreat
abbrev SP := Int × Int
abbrev W := List Int × Int × List SP
abbrev G := List Int × List W
abbrev fJ (l : List SP) : List (List AV) := l.map fun p => [AV.i p.1,AV.i p.2]
abbrev wA (w : W) : List AV := [.rowE (Go.Proofs.YtmmmeebiobjnbaaGreat.ints w.1) 1,.i w.2.1,.rowE (fJ w.2.2) 2]
abbrev gE (l : List W) : List (List AV) := l.map wA
abbrev gA (g : G) : List AV := [.rowE (Go.Proofs.YtmmmeebiobjnbaaGreat.ints g.1) 1,.rowE (gE g.2) 3]
abbrev kE (l : List G) : List (List AV) := l.map gA
def cI (a b : Int) : Int := if a < b then -1 else if b < a then 1 else 0
def P9 (a b : Int) : Int := if a = 0 then b else a
def cL : List Int → List Int → Int
  | [],[] => 0
  | [],_ :: _ => -1
  | _ :: _,[] => 1
  | x :: a,y :: b => P9 (cI x y) (cL a b)
def cS (x y : SP) : Int := P9 (cI x.1 y.1) (cI x.2 y.2)
def cB : List SP → List SP → Int
  | [],[] => 0
  | [],_ :: _ => -1
  | _ :: _,[] => 1
  | x :: a,y :: b => P9 (cS x y) (cB a b)
def oP (a b : W) : Int := P9 (cL a.1 b.1) (cB a.2.2 b.2.2)
def eN (a b : W) : Int := P9 (oP a b) (cI a.2.1 b.2.1)
structure EX {α : Type} (c : α → α → Int) : Prop where
  eq : ∀ a b,c a b = 0 ↔ a = b
  neg : ∀ a b,c a b = - c b a
  tr : ∀ a b d,c a b < 0 → c b d < 0 → c a d < 0
theorem EX.rfl' {α : Type} {c : α → α → Int} (h : EX c) (a : α) : c a a = 0 := (h.eq a a).2 rfl
theorem EX.le_tr {α : Type} {c : α → α → Int} (h : EX c) {a b d : α} (h1 : c a b ≤ 0) (h2 : c b d ≤ 0) : c a d ≤ 0 := by
  by_cases e : c a b = 0
  · rw [(h.eq _ _).1 e];exact h2
  · by_cases e' : c b d = 0
    · rw [← (h.eq _ _).1 e'];exact h1
    · have := h.tr a b d (by omega) (by omega);omega
theorem qM : EX cI where
  eq a b := by unfold cI;split <;> (try split) <;> omega
  neg a b := by unfold cI;split <;> split <;> (try split) <;> omega
  tr a b d := by unfold cI; repeat' split
                 all_goals omega
theorem FQ {a b : Int} : P9 a b = 0 ↔ a = 0 ∧ b = 0 := by unfold P9;split <;> omega
theorem FP {a b : Int} : P9 (-a) (-b) = - P9 a b := by unfold P9;split <;> split <;> omega
theorem NJ {a b : Int} : P9 a b < 0 ↔ a < 0 ∨ a = 0 ∧ b < 0 := by unfold P9;split <;> omega
theorem EX.lex {α β γ : Type} {c : α → α → Int} {d : β → β → Int} (hc : EX c) (hd : EX d) (f : γ → α) (g : γ → β) (inj : ∀ x y, f x = f y → g x = g y → x = y) : EX fun x y => P9 (c (f x) (f y)) (d (g x) (g y)) where
  eq a b := by
    rw [FQ,hc.eq,hd.eq];exact ⟨fun h => inj _ _ h.1 h.2,fun h => by rw [h];exact ⟨rfl,rfl⟩⟩
  neg a b := by rw [hc.neg,hd.neg,FP]
  tr a b e h1 h2 := by
    simp only [NJ] at *;rcases h1 with h1 | ⟨h1,h1'⟩
    · rcases h2 with h2 | ⟨h2,h2'⟩
      · exact .inl (hc.tr _ _ _ h1 h2)
      · rw [(hc.eq _ _).1 h2] at h1;exact .inl h1
    · rw [(hc.eq _ _).1 h1];rcases h2 with h2 | ⟨h2,h2'⟩
      · exact .inl h2
      · exact .inr ⟨h2,hd.tr _ _ _ h1' h2'⟩
theorem ZK : EX cL where
  eq := fun a => by
    induction a with
    | nil => intro b;cases b <;> simp [cL]
    | cons x a ih => intro b; cases b with
      | nil => simp [cL]
      | cons y b => simp only [cL,FQ,qM.eq,ih,List.cons.injEq]
  neg := fun a => by
    induction a with
    | nil => intro b;cases b <;> simp [cL]
    | cons x a ih => intro b; cases b with
      | nil => simp [cL]
      | cons y b => simp only [cL];rw [qM.neg,ih,FP]
  tr := fun a => by
    induction a with
    | nil => intro b d;cases b <;> cases d <;> simp [cL]
    | cons x a ih =>
      intro b d h1 h2;cases b with
      | nil => simp [cL] at h1
      | cons y b => cases d with
        | nil => simp [cL] at h2
        | cons z d =>
          simp only [cL,NJ] at *;rcases h1 with h1 | ⟨h1,h1'⟩
          · rcases h2 with h2 | ⟨h2,h2'⟩
            · exact .inl (qM.tr _ _ _ h1 h2)
            · rw [(qM.eq _ _).1 h2] at h1;exact .inl h1
          · rw [(qM.eq _ _).1 h1];rcases h2 with h2 | ⟨h2,h2'⟩
            · exact .inl h2
            · exact .inr ⟨h2,ih _ _ h1' h2'⟩
theorem BF : EX cS := EX.lex qM qM (·.1) (·.2) fun x y h1 h2 => Prod.ext h1 h2
theorem ZL : EX cB where
  eq := fun a => by
    induction a with
    | nil => intro b;cases b <;> simp [cB]
    | cons x a ih => intro b; cases b with
      | nil => simp [cB]
      | cons y b => simp only [cB,FQ,BF.eq,ih,List.cons.injEq]
  neg := fun a => by
    induction a with
    | nil => intro b;cases b <;> simp [cB]
    | cons x a ih => intro b; cases b with
      | nil => simp [cB]
      | cons y b => simp only [cB];rw [BF.neg,ih,FP]
  tr := fun a => by
    induction a with
    | nil => intro b d;cases b <;> cases d <;> simp [cB]
    | cons x a ih =>
      intro b d h1 h2;cases b with
      | nil => simp [cB] at h1
      | cons y b => cases d with
        | nil => simp [cB] at h2
        | cons z d =>
          simp only [cB,NJ] at *;rcases h1 with h1 | ⟨h1,h1'⟩
          · rcases h2 with h2 | ⟨h2,h2'⟩
            · exact .inl (BF.tr _ _ _ h1 h2)
            · rw [(BF.eq _ _).1 h2] at h1;exact .inl h1
          · rw [(BF.eq _ _).1 h1];rcases h2 with h2 | ⟨h2,h2'⟩
            · exact .inl h2
            · exact .inr ⟨h2,ih _ _ h1' h2'⟩
theorem JP : EX (fun x y : List Int × List SP => P9 (cL x.1 y.1) (cB x.2 y.2)) := EX.lex ZK ZL (·.1) (·.2) fun x y h1 h2 => Prod.ext h1 h2
theorem jH : EX eN := EX.lex JP qM (fun w : W => (w.1,w.2.2)) (fun w => w.2.1) fun x y h1 h2 => by
  obtain ⟨a,b,c⟩ := x;obtain ⟨a',b',c'⟩ := y;simp at h1 h2;obtain ⟨h1,h3⟩ := h1;rw [h1,h2,h3]
theorem oZ {a b : W} : oP a b = 0 ↔ a.1 = b.1 ∧ a.2.2 = b.2.2 := by unfold oP;rw [FQ,ZK.eq,ZL.eq]
def CA {α : Type} (c : α → α → Int) (w : α) : List α → List α
  | [] => [w]
  | x :: l => if c w x ≤ 0 then w :: x :: l else x :: CA c w l
def eC {α : Type} (c : α → α → Int) : List α → List α
  | [] => []
  | x :: l => CA c x (eC c l)
theorem B7 {α : Type} (c : α → α → Int) (w : α) : ∀ l, (CA c w l).Perm (w :: l)
  | [] => .refl _
  | x :: l => by
    unfold CA;split
    · exact .refl _
    · exact ((B7 c w l).cons x).trans (.swap _ _ _)
theorem dK {α : Type} (c : α → α → Int) : ∀ l, (eC c l).Perm l
  | [] => .refl _
  | x :: l => (B7 c x _).trans ((dK c l).cons x)
theorem QJ {α : Type} {c : α → α → Int} (h : EX c) (w : α) : ∀ {l : List α}, l.Pairwise (fun a b => c a b ≤ 0) → (CA c w l).Pairwise (fun a b => c a b ≤ 0)
  | [],_ => mC _ _
  | x :: l,hl => by
    rw [eV] at hl;unfold CA;split
    · rename_i hw;rw [eV,eV];refine ⟨fun y hy => ?_,hl⟩
      rcases bS.1 hy with rfl | hy
      · exact hw
      · exact h.le_tr hw (hl.1 y hy)
    · rename_i hw;rw [eV];refine ⟨fun y hy => ?_,QJ h w hl.2⟩
      rcases bS.1 ((B7 c w l).mem_iff.1 hy) with rfl | hy
      · have := h.neg x y;omega
      · exact hl.1 y hy
theorem lM {α : Type} {c : α → α → Int} (h : EX c) : ∀ l, (eC c l).Pairwise (fun a b => c a b ≤ 0)
  | [] => .nil
  | x :: l => QJ h x (lM h l)
theorem F3 {α : Type} {c : α → α → Int} (h : EX c) {l m : List α} (hp : m.Perm l) (hm : m.Pairwise (fun a b => c a b ≤ 0)) : m = eC c l :=
  List.Perm.eq_of_pairwise (le := fun a b => c a b ≤ 0) (fun a b _ _ h1 h2 => (h.eq a b).1 (by have := h.neg a b;omega)) hm (lM h l) (hp.trans (dK c l).symm)
def kN {α : Type} (e : α → α → Bool) (p : α) : List α → List α
  | [] => []
  | y :: l => if e y p then kN e y l else y :: kN e y l
def zP {α : Type} (e : α → α → Bool) : List α → List α
  | [] => []
  | x :: l => x :: kN e x l
def E4 (a b : W) : Bool := decide (oP a b = 0)
def gL (l : List W) : List W := zP E4 (eC eN l)
structure Cx where
  m : Int
  st : Int
  er : Int
  sl : Int
  ks : List KD
  ls : List LT
  bs : List BX
structure Ev where
  k : Int
  a : Int
  b : Int
  n : Int
  ids : List Int
def gP (w : W) (i : Nat) : Int := w.1.getD i 0
def gC (w : W) (i : Nat) : SP := w.2.2.getD i (0,0)
def sC (w : W) (i : Nat) (r : SP) : W := (w.1,w.2.1,w.2.2.set i r)
def K3 (f t : Int) : SP × Bool := ((GM f t,cutT f t),zO f t)
def EG (a b c d : Int) : Bool := decide (0 ≤ a ∧ a ≤ 1099511627776 ∧ 0 ≤ b ∧ b ≤ 1099511627776 ∧ 0 ≤ c ∧ c ≤ 1099511627776 ∧ 0 ≤ d ∧ d ≤ 1099511627776)
def VA (t u w e : Int) : SP × Bool := if EG t u w e = true then (if w + e - t < 0 ∨ u = 0 ∧ 0 < w - e - t then ((0,0),false) else if u = 0 then ((0,20001),true) else K3 (zY6 t u w e) (zY5 t u w e)) else ((0,0),false)
def uP (t u w e : Int) (r : SP) : SP × Bool := let q := VA t u w e;if q.2 then K3 (max r.1 q.1.1) (min r.2 q.1.2) else q
def zE (r : SP) (n s : Int) : SP × Bool := if 0 ≤ n ∧ n ≤ 1099511627776 ∧ 0 ≤ s ∧ s ≤ 1099511627776 then K3 (r.1 - n - s) (r.2 - max (n - s) 0) else ((0,0),false)
def kA (c : Cx) (w : W) (i : Nat) (s : Ev) : W × Bool :=
  if s.k = 0 then (if gP w i ∈ s.ids then (w,decide ((s.ids.length : Int) - 1 ≤ c.st)) else ((w.1,w.2.1 + 1,w.2.2),decide ((s.ids.length : Int) ≤ c.st)))
  else if s.k = 1 then
    let b := c.bs.getD (gP w i).toNat (0,0,0)
    let q := uP b.2.2 (nI c.ks c.ls b.1) s.n c.er (gC w i)
    (sC w i q.1,q.2)
  else if s.k = 2 then let q := zE (gC w i) s.n c.sl;(sC w i q.1,q.2)
  else if s.k = 3 then (sC w i (s.n,s.n + 1),vT (gC w i).1 (gC w i).2 s.n)
  else if s.k = 5 then (w,decide (gP w i = s.n))
  else (w,true)
def oT (w : W) (i k : Nat) : W := ((w.1.set i (gP w k)).set k (gP w i),w.2.1,(w.2.2.set i (gC w k)).set k (gC w i))
def oS (l : List G) (b : Int) : Int := match l.findIdx? fun g => decide (b ∈ g.1) with
  | some i => i
  | none => -1
def E2 (a b : G) (x y : W) (l : List Int) : W := (l.map (fun k => if k ∈ a.1 then gP x (a.1.idxOf k) else gP y (b.1.idxOf k)),x.2.1 + y.2.1,l.map (fun k => if k ∈ a.1 then gC x (a.1.idxOf k) else gC y (b.1.idxOf k)))
def pF (a b : G) (l : List Int) : List W := a.2.flatMap fun x => b.2.map fun y => E2 a b x y l
def lY (l : List G) (i : Nat) : G := l.getD i ([],[])
def mK (x y : G) : G := let bodies := eC cI (x.1 ++ y.1);(bodies,pF x y bodies)
def join (l : List G) (a b : Int) : Option (List G) :=
  let i := oS l a;let k := oS l b
  if i = k then some l else
  let x := lY l i.toNat;let y := lY l k.toNat
  if 6 < x.1.length + y.1.length ∨ 1000 < x.2.length * y.2.length then none else
  some ((l.set (min i k).toNat (mK x y)).eraseIdx (max i k).toNat)
def gJ (g : G) : Int := match g.2 with
  | [] => 0
  | w :: l => l.foldl (fun m x => if x.2.1 < m then x.2.1 else m) w.2.1
def zA (g : G) (i : Nat) : Bool := match g.2 with
  | [] => false
  | f :: l => (f :: l).all fun w => decide (gP w i = gP f i ∧ gC w i = gC f i)
def iI (g : G) : Option Nat := if g.1.length < 2 ∨ g.2 = [] then none else (List.range g.1.length).find? (zA g)
def iL (g : G) : W := g.2.headD ([],0,[])
def nD (g : G) (k : Nat) : G := ([g.1.getD k 0],[([gP (iL g) k],0,[gC (iL g) k])])
def jP (g : G) (k : Nat) : G := (g.1.eraseIdx k,gL (g.2.map fun w => (w.1.eraseIdx k,w.2.1,w.2.2.eraseIdx k)))
def lN : Nat → G → List G
  | 0,g => [g]
  | n + 1, g => match iI g with
    | none => [g]
    | some k => nD g k :: lN n (jP g k)
def cG (a b : G) : Int := cI (a.1.headD 0) (b.1.headD 0)
def qR (l : List G) : List G := eC cG (l.flatMap fun g => lN g.1.length g)
def jS (l : List G) : Int := (l.map gJ).sum
def paid (c : Cx) (all : List G) : List G := all.map fun g => (g.1,g.2.filter fun w => decide (w.2.1 + (jS all - gJ g) ≤ c.m))
def uQ (c : Cx) (all : List G) : List G := qR (paid c all)
def mG (c : Cx) (s : Ev) (g : G) : List W :=
  let i := g.1.idxOf s.a
  g.2.flatMap fun w => (if (kA c w i s).2 then [(kA c w i s).1] else []) ++ (if s.k = 4 then [oT w i (g.1.idxOf s.b)] else [])
def zN8 (l : List Int) (n : Int) : Bool := (List.range l.length).all fun i => decide (0 ≤ l.getD i 0 ∧ l.getD i 0 ≤ n - 1 ∧ (0 < i → l.getD (i - 1) 0 < l.getD i 0))
def iC (n : Int) (s : Ev) : Bool := decide (0 ≤ s.a ∧ s.a ≤ n - 1) && decide (s.k = 0 ∨ s.ids.length = 0) && decide (s.k = 4 ∨ s.b = 0) &&
  (if s.k = 0 then decide (s.n = 0) && zN8 s.ids n else if s.k = 1 ∨ s.k = 2 ∨ s.k = 3 then decide (0 ≤ s.n ∧ s.n ≤ 1099511627776) else if s.k = 4 then decide (s.n = 0 ∧ s.a + 1 ≤ s.b ∧ s.b ≤ n - 1) else if s.k = 5 then decide (0 ≤ s.n ∧ s.n ≤ n - 1) else false)
def sW (c : Cx) (l all : List G) (s : Ev) : Int × List G :=
  let at_ := (oS all s.a).toNat
  let g := lY all at_
  let ws := gL (mG c s g)
  if ws = [] then (26,l) else if 1000 < ws.length then (6,l) else
  let out := uQ c (all.set at_ (g.1,ws))
  if out.any (fun g => g.2.isEmpty) then (26,l) else (0,out)
def fK (c : Cx) (l : List G) (s : Ev) : Int × List G :=
  if iC c.bs.length s then
    (if s.k = 4 then (match join l s.a s.b with
      | none => (6,l)
      | some all => sW c l all s)
    else sW c l l s)
  else (1,l)
def pT (c : Cx) : List G := (List.range c.bs.length).map fun (i : Nat) => ([(i : Int)],[([(i : Int)],0,[((c.bs.getD i (0,0,0)).2.1,(c.bs.getD i (0,0,0)).2.1 + 1)])])
theorem zH1 {a b d : W} (h1 : oP a b < 0) (h2 : oP b d < 0) : oP a d < 0 := JP.tr (a.1,a.2.2) (b.1,b.2.2) (d.1,d.2.2) h1 h2
theorem NH {a b d : W} (h : oP b a = 0) : oP a d = oP b d := by
  obtain ⟨h1,h2⟩ := oZ.1 h;unfold oP;rw [h1,h2]
theorem RD {a b : W} (h : eN a b ≤ 0) : oP a b < 0 ∨ oP a b = 0 ∧ a.2.1 ≤ b.2.1 := by
  unfold eN P9 at h;split at h
  · rename_i e;refine .inr ⟨e,?_⟩;unfold cI at h;split at h <;> (try split at h) <;> omega
  · omega
theorem xQ {α : Type} (e : α → α → Bool) : ∀ (p : α) (l : List α), (kN e p l).Sublist l
  | _,[] => .slnil
  | p,y :: l => by
    unfold kN;split
    · exact (xQ e y l).cons _
    · exact (xQ e y l).cons_cons _
theorem EK {α : Type} (e : α → α → Bool) : ∀ (l : List α), (zP e l).Sublist l
  | [] => .slnil
  | x :: l => (xQ e x l).cons_cons _
theorem pO {l : List W} {w : W} (h : w ∈ gL l) : w ∈ l := (dK eN l).mem_iff.1 ((EK _ _).mem h)
theorem rP (l : List W) : (gL l).length ≤ l.length := by
  have := (EK E4 (eC eN l)).length_le;rw [(dK eN l).length_eq] at this;exact this
theorem uY : ∀ (l : List W) (q p : W), (p :: l).Pairwise (fun a b => eN a b ≤ 0) → oP q p = 0 → q.2.1 ≤ p.2.1 → ∀ w, w ∈ p :: l → ∃ v, v ∈ q :: kN E4 p l ∧ oP v w = 0 ∧ v.2.1 ≤ w.2.1
  | [],q,p,hs,h1,h2,w,hw => by
    rcases bS.1 hw with rfl | hw
    · exact ⟨q,aR,h1,h2⟩
    · cases hw
  | y :: l,q,p,hs,h1,h2,w,hw => by
    have hs' := eV.1 hs;rcases bS.1 hw with rfl | hw
    · exact ⟨q,aR,h1,h2⟩
    · unfold kN;by_cases e : E4 y p = true
      · rw [if_pos e];have e' : oP y p = 0 := by unfold E4 at e;simpa using e
        have hpy : oP p y = 0 := by obtain ⟨a,b⟩ := oZ.1 e';exact oZ.2 ⟨a.symm,b.symm⟩
        rcases RD (hs'.1 y aR) with hl | ⟨_,hl⟩
        · omega
        · refine uY l q y hs'.2 ?_ (by omega) w hw
          obtain ⟨a,b⟩ := oZ.1 h1;obtain ⟨a',b'⟩ := oZ.1 hpy;exact oZ.2 ⟨a.trans a',b.trans b'⟩
      · rw [if_neg e];obtain ⟨v,hv,h3,h4⟩ := uY l y y hs'.2 (oZ.2 ⟨rfl,rfl⟩) (eM _) w hw;exact ⟨v,aI _ hv,h3,h4⟩
theorem wZ {l : List W} {w : W} (h : w ∈ l) : ∃ v,v ∈ gL l ∧ v.1 = w.1 ∧ v.2.2 = w.2.2 ∧ v.2.1 ≤ w.2.1 := by
  have hs := lM jH l;have hw := (dK eN l).mem_iff.2 h;unfold gL;generalize eC eN l = m at *;cases m with
  | nil => cases hw
  | cons x m =>
    obtain ⟨v,hv,h1,h2⟩ := uY m x x hs (oZ.2 ⟨rfl,rfl⟩) (eM _) w hw;exact ⟨v,hv,(oZ.1 h1).1,(oZ.1 h1).2,h2⟩
theorem R2 : ∀ (l : List W) (p : W), (p :: l).Pairwise (fun a b => eN a b ≤ 0) → (∀ z, z ∈ kN E4 p l → oP p z < 0) ∧ (kN E4 p l).Pairwise (fun a b => oP a b < 0)
  | [],p,_ => ⟨fun z hz => (by cases hz),.nil⟩
  | y :: l,p,hs => by
    have hs' := eV.1 hs;obtain ⟨h1,h2⟩ := R2 l y hs'.2;unfold kN;by_cases e : E4 y p = true
    · rw [if_pos e];have e' : oP y p = 0 := by unfold E4 at e;simpa using e
      exact ⟨fun z hz => by rw [NH e'];exact h1 z hz,h2⟩
    · rw [if_neg e];have e' : oP p y < 0 := by
        rcases RD (hs'.1 y aR) with hl | ⟨hl,_⟩
        · exact hl
        · exfalso;apply e;unfold E4;obtain ⟨a,b⟩ := oZ.1 hl;simp [oZ.2 ⟨a.symm,b.symm⟩]
      refine ⟨fun z hz => ?_,eV.2 ⟨h1,h2⟩⟩
      rcases bS.1 hz with rfl | hz
      · exact e'
      · exact zH1 e' (h1 z hz)
theorem Z8 (l : List W) : (gL l).Pairwise (fun a b => oP a b < 0) := by
  have hs := lM jH l;unfold gL;generalize eC eN l = m at *;cases m with
  | nil => exact .nil
  | cons x m => exact eV.2 (R2 m x hs)
theorem P8 {l : List W} : gL l = [] ↔ l = [] := by
  constructor
  · intro h;cases l with
    | nil => rfl
    | cons x l => obtain ⟨v,hv,_⟩ := wZ (l := x :: l) (w := x) aR;rw [h] at hv;cases hv
  · rintro rfl;rfl
abbrev As := Int → Int × SP
def oF (bs : List Int) (w : W) (f : As) : Prop := w.1 = bs.map (fun b => (f b).1) ∧ w.2.2 = bs.map (fun b => (f b).2)
def G9 (g : G) (f : As) (m : Int) : Prop := ∃ w,w ∈ g.2 ∧ oF g.1 w f ∧ w.2.1 ≤ m
def Sem : List G → As → Int → Prop
  | [],_,M => 0 ≤ M
  | g :: gs,f,M => ∃ m,G9 g f m ∧ Sem gs f (M - m)
theorem G9.mono {g : G} {f : As} {m m' : Int} (h : G9 g f m) (hm : m ≤ m') : G9 g f m' := by
  obtain ⟨w,h1,h2,h3⟩ := h;exact ⟨w,h1,h2,by omega⟩
theorem Sem.mono : ∀ {gs : List G} {f : As} {M M' : Int}, Sem gs f M → M ≤ M' → Sem gs f M'
  | [],f,M,M',h,hm => by unfold Sem at *;omega
  | g :: gs,f,M,M',⟨m,h1,h2⟩,hm => ⟨m,h1,h2.mono (by omega)⟩
theorem PM {g : G} {f : As} {M : Int} : Sem [g] f M ↔ G9 g f M := by
  constructor
  · rintro ⟨m,h1,h2⟩;unfold Sem at h2;exact h1.mono (by omega)
  · intro h;exact ⟨M,h,by unfold Sem;omega⟩
theorem FH : ∀ (a b : List G) (f : As) (M : Int), Sem (a ++ b) f M ↔ ∃ m, Sem a f m ∧ Sem b f (M - m)
  | [],b,f,M => by
    constructor
    · intro h;exact ⟨0,by unfold Sem;omega,by rw [H1];exact h⟩
    · rintro ⟨m,h1,h2⟩;unfold Sem at h1;exact h2.mono (by omega)
  | g :: a,b,f,M => by
    simp only [List.cons_append,Sem];constructor
    · rintro ⟨m,h1,h2⟩;obtain ⟨m',h3,h4⟩ := (FH a b f _).1 h2;exact ⟨m + m',⟨m,h1,h3.mono (by omega)⟩,h4.mono (by omega)⟩
    · rintro ⟨m,⟨m',h1,h2⟩,h3⟩;exact ⟨m',h1,(FH a b f _).2 ⟨m - m',h2,h3.mono (by omega)⟩⟩
theorem oN {a b : List G} (h : a.Perm b) : ∀ {f : As} {M : Int},Sem a f M ↔ Sem b f M := by
  induction h with
  | nil => intro f M;exact Iff.rfl
  | cons x _ ih => intro f M;simp only [Sem,ih]
  | swap x y l =>
    intro f M;simp only [Sem];constructor
    · rintro ⟨m,h1,m',h2,h3⟩;exact ⟨m',h2,m,h1,h3.mono (by omega)⟩
    · rintro ⟨m,h1,m',h2,h3⟩;exact ⟨m',h2,m,h1,h3.mono (by omega)⟩
  | trans _ _ ih1 ih2 => intro f M;rw [ih1,ih2]
theorem IW {F : G → List G} {f : As} : ∀ {gs : List G}, (∀ g, g ∈ gs → ∀ M, Sem (F g) f M ↔ G9 g f M) → ∀ {M : Int}, Sem (gs.flatMap F) f M ↔ Sem gs f M
  | [],_,M => Iff.rfl
  | g :: gs,h,M => by
    rw [bJ,FH];simp only [Sem,IW (fun g hg => h g (aI _ hg)),h g aR]
theorem Q0 {bs : List Int} {l : List W} {f : As} {m : Int} : G9 (bs,gL l) f m ↔ G9 (bs,l) f m := by
  constructor
  · rintro ⟨w,h1,h2,h3⟩;exact ⟨w,pO h1,h2,h3⟩
  · rintro ⟨w,h1,h2,h3⟩;obtain ⟨v,hv,a,b,d⟩ := wZ h1;exact ⟨v,hv,⟨a.trans h2.1,b.trans h2.2⟩,H2 d h3⟩
def MN (r : SP) : Prop := 0 ≤ r.1 ∧ r.1 < r.2 ∧ r.2 ≤ 20001
structure EU (n k : Nat) (w : W) : Prop where
  pl : w.1.length = k
  cl : w.2.2.length = k
  pr : ∀ x,x ∈ w.1 → 0 ≤ x ∧ x < n
  nd : w.1.Nodup
  m0 : 0 ≤ w.2.1
  m1 : w.2.1 ≤ 4000000
  sp : ∀ r,r ∈ w.2.2 → MN r
structure A4 (n : Nat) (g : G) : Prop where
  ne : g.1 ≠ []
  up : g.1.Pairwise (· < ·)
  rg : ∀ b,b ∈ g.1 → 0 ≤ b ∧ b < n
  ln : g.1.length ≤ 6
  ws : ∀ w,w ∈ g.2 → EU n g.1.length w
  same : ∀ w v,w ∈ g.2 → v ∈ g.2 → w.1.Perm v.1
theorem A4.nd {n : Nat} {g : G} (h : A4 n g) : g.1.Nodup := h.up.imp (fun h => by omega)
theorem O6 : ∀ (l : List W) (a : Int), l.foldl (fun m x => if x.2.1 < m then x.2.1 else m) a ≤ a ∧ (∀ x, x ∈ l → l.foldl (fun m x => if x.2.1 < m then x.2.1 else m) a ≤ x.2.1) ∧ (l.foldl (fun m x => if x.2.1 < m then x.2.1 else m) a = a ∨ ∃ x, x ∈ l ∧ l.foldl (fun m x => if x.2.1 < m then x.2.1 else m) a = x.2.1)
  | [],a => ⟨eM _,fun x hx => (by cases hx),.inl rfl⟩
  | y :: l,a => by
    rw [D5];obtain ⟨h1,h2,h3⟩ := O6 l (if y.2.1 < a then y.2.1 else a)
    generalize l.foldl (fun m x => if x.2.1 < m then x.2.1 else m) (if y.2.1 < a then y.2.1 else a) = q at *
    refine ⟨by split at h1 <;> omega,fun x hx => ?_,?_⟩
    · rcases bS.1 hx with rfl | hx
      · split at h1 <;> omega
      · exact h2 x hx
    · rcases h3 with h3 | ⟨x,hx,h3⟩
      · split at h3
        · exact .inr ⟨y,aR,h3⟩
        · exact .inl h3
      · exact .inr ⟨x,aI _ hx,h3⟩
theorem tA {g : G} {w : W} (h : w ∈ g.2) : gJ g ≤ w.2.1 := by
  unfold gJ;cases hg : g.2 with
  | nil => rw [hg] at h;cases h
  | cons x l =>
    rw [hg] at h;obtain ⟨h1,h2,h3⟩ := O6 l x.2.1;rcases bS.1 h with rfl | h
    · exact h1
    · exact h2 _ h
theorem sK {g : G} (h : g.2 ≠ []) : ∃ w,w ∈ g.2 ∧ w.2.1 = gJ g := by
  unfold gJ;cases hg : g.2 with
  | nil => exact absurd hg h
  | cons x l =>
    obtain ⟨h1,h2,h3⟩ := O6 l x.2.1;rcases h3 with h3 | ⟨y,hy,h3⟩
    · exact ⟨x,aR,h3.symm⟩
    · exact ⟨y,aI _ hy,h3.symm⟩
theorem SY {g : G} {f : As} {m : Int} (h : G9 g f m) : gJ g ≤ m := by
  obtain ⟨w,h1,_,h3⟩ := h;exact H2 (tA h1) h3
theorem CV : ∀ {gs : List G} {f : As} {M : Int}, Sem gs f M → jS gs ≤ M
  | [],f,M,h => by unfold Sem at h;simpa [jS] using h
  | g :: gs,f,M,⟨m,h1,h2⟩ => by
    have := SY h1;have := CV h2;simp only [jS,List.map_cons,yG0] at *;omega
def yA0 (c : Cx) (S : Int) (all : List G) : List G := all.map fun g => (g.1,g.2.filter fun w => decide (w.2.1 + (S - gJ g) ≤ c.m))
theorem M5 {c : Cx} {S : Int} : ∀ {gs : List G} {f : As} {M : Int}, M + (S - jS gs) ≤ c.m → (Sem (yA0 c S gs) f M ↔ Sem gs f M)
  | [],f,M,h => Iff.rfl
  | g :: gs,f,M,h => by
    have e : jS (g :: gs) = gJ g + jS gs := by simp [jS]
    constructor
    · rintro ⟨m,⟨w,h1,h2,h3⟩,h4⟩;have h1' := (eJ.1 h1).1;have := tA h1';exact ⟨m,⟨w,h1',h2,h3⟩,(M5 (by omega)).1 h4⟩
    · rintro ⟨m,⟨w,h1,h2,h3⟩,h4⟩;have := tA h1;have := CV h4;refine ⟨m,⟨w,?_,h2,h3⟩,(M5 (by omega)).2 h4⟩
      rw [eJ];refine ⟨h1,?_⟩;simp only [decide_eq_true_eq];omega
theorem WD {c : Cx} {gs : List G} {f : As} {M : Int} (h : M ≤ c.m) : Sem (paid c gs) f M ↔ Sem gs f M := M5 (S := jS gs) (by omega)
theorem AN {bs : List Int} {w : W} {f : As} (h : oF bs w f) {i : Nat} (hi : i < bs.length) : gP w i = (f bs[i]).1 := by
  unfold gP;rw [h.1];simp [List.getD,hi]
theorem AO {bs : List Int} {w : W} {f : As} (h : oF bs w f) {i : Nat} (hi : i < bs.length) : gC w i = (f bs[i]).2 := by
  unfold gC;rw [h.2];simp [List.getD,hi]
theorem vP {α β : Type} (f : α → β) : ∀ (l : List α) (k : Nat), (l.map f).eraseIdx k = (l.eraseIdx k).map f
  | [],_ => rfl
  | x :: l,0 => rfl
  | x :: l,k + 1 => by simp [vP f l k]
def zL8 (k : Nat) (w : W) : W := (w.1.eraseIdx k,w.2.1,w.2.2.eraseIdx k)
theorem xL {α : Type} : ∀ {k : Nat} {a b : List α} (x : α), a.length = b.length → a.getD k x = b.getD k x → a.eraseIdx k = b.eraseIdx k → a = b
  | _,[],[],_,_,_,_ => rfl
  | _,[],_ :: _,_,h,_,_ => by simp at h
  | _,_ :: _,[],_,h,_,_ => by simp at h
  | 0,y :: a,z :: b,x,h,h1,h2 => by
    simp at h1 h2;rw [h1,h2]
  | k + 1,y :: a,z :: b,x,h,h1,h2 => by
    simp at h h1 h2;rw [h2.1,xL x h (by simpa using h1) h2.2]
theorem AR {bs : List Int} {w : W} {f : As} {k : Nat} (hk : k < bs.length) (h1 : w.1.length = bs.length) (h2 : w.2.2.length = bs.length) :
    oF bs w f ↔ oF (bs.eraseIdx k) (zL8 k w) f ∧ gP w k = (f (bs.getD k 0)).1 ∧ gC w k = (f (bs.getD k 0)).2 := by
  have hb : bs.getD k 0 = bs[k] := by simp [List.getD,hk]
  constructor
  · intro h;refine ⟨⟨?_,?_⟩,?_,?_⟩
    · show w.1.eraseIdx k = _;rw [h.1,vP]
    · show w.2.2.eraseIdx k = _;rw [h.2,vP]
    · rw [hb];exact AN h hk
    · rw [hb];exact AO h hk
  · rintro ⟨h,h3,h4⟩;rw [hb] at h3 h4;constructor
    · refine xL (k := k) 0 (by simp [h1]) ?_ (by rw [vP];exact h.1)
      rw [show w.1.getD k 0 = gP w k from rfl,h3];simp [List.getD,hk]
    · refine xL (k := k) (0,0) (by simp [h2]) ?_ (by rw [vP];exact h.2)
      rw [show w.2.2.getD k (0,0) = gC w k from rfl,h4];simp [List.getD,hk]
theorem MZ {g : G} {i : Nat} (hne : g.2 ≠ []) : zA g i = true ↔ ∀ w,w ∈ g.2 → gP w i = gP (iL g) i ∧ gC w i = gC (iL g) i := by
  unfold zA iL;cases hg : g.2 with
  | nil => exact absurd hg hne
  | cons f l => simp
theorem jW {g : G} {k : Nat} (h : iI g = some k) : 2 ≤ g.1.length ∧ g.2 ≠ [] ∧ k < g.1.length ∧ ∀ w,w ∈ g.2 → gP w k = gP (iL g) k ∧ gC w k = gC (iL g) k := by
  unfold iI at h;split at h
  · cases h
  · rename_i hc;have hne : g.2 ≠ [] := fun e => hc (.inr e)
    have h1 := List.find?_some h;have h2 := List.mem_of_find?_eq_some h;rw [eW] at h2;exact ⟨by omega,hne,h2,(MZ hne).1 h1⟩
theorem jF {g : G} (h : g.2 ≠ []) : iL g ∈ g.2 := by
  unfold iL;cases hg : g.2 with
  | nil => exact absurd hg h
  | cons f l => simp
theorem JU {g : G} {k : Nat} {f : As} {m : Int} : G9 (nD g k) f m ↔ gP (iL g) k = (f (g.1.getD k 0)).1 ∧ gC (iL g) k = (f (g.1.getD k 0)).2 ∧ 0 ≤ m := by
  unfold G9 nD;constructor
  · rintro ⟨w,h1,h2,h3⟩;simp at h1;subst h1;obtain ⟨h4,h5⟩ := h2;simp at h4 h5;exact ⟨h4,h5,h3⟩
  · rintro ⟨h1,h2,h3⟩;exact ⟨_,bK.2 rfl,⟨by simp [h1],by simp [h2]⟩,h3⟩
theorem SX {n : Nat} {g : G} (ok : A4 n g) {k : Nat} (hc : iI g = some k) {f : As} {M : Int} : (∃ m,G9 (nD g k) f m ∧ G9 (jP g k) f (M - m)) ↔ G9 g f M := by
  obtain ⟨h1,hne,hk,hs⟩ := jW hc;have hr : ∀ M,G9 (jP g k) f M ↔ ∃ w,w ∈ g.2 ∧ oF (g.1.eraseIdx k) (zL8 k w) f ∧ w.2.1 ≤ M := by
    intro M;unfold jP;rw [Q0];unfold G9;constructor
    · rintro ⟨v,hv,a,b⟩;obtain ⟨w,hw,rfl⟩ := bC.1 hv;exact ⟨w,hw,a,b⟩
    · rintro ⟨w,hw,a,b⟩;exact ⟨zL8 k w,bC.2 ⟨w,hw,rfl⟩,a,b⟩
  constructor
  · rintro ⟨m,h2,h3⟩;obtain ⟨a,b,c⟩ := JU.1 h2;obtain ⟨w,hw,d,e⟩ := (hr _).1 h3;have := ok.ws w hw;exact ⟨w,hw,(AR hk this.pl this.cl).2 ⟨d,by rw [(hs w hw).1];exact a,by rw [(hs w hw).2];exact b⟩,by omega⟩
  · rintro ⟨w,hw,d,e⟩;have := ok.ws w hw;obtain ⟨a,b,c⟩ := (AR hk this.pl this.cl).1 d;refine ⟨0,JU.2 ⟨by rw [← (hs w hw).1];exact b,by rw [← (hs w hw).2];exact c,eM _⟩,(hr _).2 ⟨w,hw,a,by omega⟩⟩
theorem uS {α : Type} {l : List α} {k : Nat} {x : α} (h : x ∈ l.eraseIdx k) : x ∈ l := (HM l k).mem h
theorem EU.erase {n k : Nat} {w : W} (h : EU n k w) {i : Nat} (hi : i < k) : EU n (k - 1) (zL8 i w) where
  pl := by show (w.1.eraseIdx i).length = _;rw [gD,h.pl,if_pos hi]
  cl := by show (w.2.2.eraseIdx i).length = _;rw [gD,h.cl,if_pos hi]
  pr x hx := h.pr x (uS hx)
  nd := h.nd.sublist (HM _ _)
  m0 := h.m0
  m1 := h.m1
  sp r hr := h.sp r (uS hr)
theorem jV {α : Type} : ∀ (l : List α) (i : Nat) (x : α), i < l.length → (l.getD i x :: l.eraseIdx i).Perm l
  | [],i,x,h => by simp at h
  | y :: l,0,x,h => by simp
  | y :: l,i + 1,x,h => by
    simp only [List.getD_cons_succ,List.eraseIdx_cons_succ];exact (List.Perm.swap _ _ _).trans ((jV l i x (by simpa using h)).cons y)
theorem EU.at {n k : Nat} {w : W} (h : EU n k w) {i : Nat} (hi : i < k) : 0 ≤ gP w i ∧ gP w i < n ∧ MN (gC w i) := by
  unfold gP gC;have h1 : i < w.1.length := by rw [h.pl];exact hi
  have h2 : i < w.2.2.length := by rw [h.cl];exact hi
  simp only [List.getD,aB h1,aB h2,mS];exact ⟨(h.pr _ (aQ h1)).1,(h.pr _ (aQ h1)).2,h.sp _ (aQ h2)⟩
theorem A4.one {n : Nat} {g : G} (h : A4 n g) {k : Nat} (hc : iI g = some k) : A4 n (nD g k) := by
  obtain ⟨h1,hne,hk,hs⟩ := jW hc;have hf := h.ws _ (jF hne);have ha := hf.at hk;refine ⟨by simp [nD],by simp [nD],?_,by simp [nD],?_,?_⟩
  · intro b hb;simp only [nD,bK] at hb;subst hb;simp only [List.getD,aB hk,mS];exact h.rg _ (aQ hk)
  · intro w hw;simp only [nD,bK] at hw;subst hw;exact ⟨rfl,rfl,by intro x hx;simp at hx;subst hx;exact ⟨ha.1,ha.2.1⟩,by simp,by simp,by simp,by intro r hr;simp at hr;subst hr;exact ha.2.2⟩
  · intro w v hw hv;simp only [nD,bK] at hw hv;subst hw;subst hv;exact .refl _
theorem A4.rest {n : Nat} {g : G} (h : A4 n g) {k : Nat} (hc : iI g = some k) : A4 n (jP g k) := by
  obtain ⟨h1,hne,hk,hs⟩ := jW hc;have hl : (g.1.eraseIdx k).length = g.1.length - 1 := by rw [gD,if_pos hk]
  have hm : ∀ w,w ∈ (jP g k).2 → ∃ v,v ∈ g.2 ∧ w = zL8 k v := by
    intro w hw;obtain ⟨v,hv,rfl⟩ := bC.1 (pO hw);exact ⟨v,hv,rfl⟩
  refine ⟨?_,h.up.sublist (HM _ _),fun b hb => h.rg b (uS hb),?_,?_,?_⟩
  · intro e;have : (g.1.eraseIdx k).length = 0 := by rw [show g.1.eraseIdx k = [] from e];rfl
    omega
  · show (g.1.eraseIdx k).length ≤ 6;have := h.ln;omega
  · intro w hw;obtain ⟨v,hv,rfl⟩ := hm w hw;show EU n (g.1.eraseIdx k).length _;rw [hl];exact (h.ws v hv).erase hk
  · intro w v hw hv;obtain ⟨w,hw',rfl⟩ := hm w hw;obtain ⟨v,hv',rfl⟩ := hm v hv;clear hw hv;have hw := hw';have hv := hv';have h3 := h.same w v hw hv;have e1 := jV w.1 k 0 (by rw [(h.ws w hw).pl];exact hk)
    have e2 := jV v.1 k 0 (by rw [(h.ws v hv).pl];exact hk)
    have e3 : w.1.getD k 0 = v.1.getD k 0 := ((hs w hw).1).trans ((hs v hv).1).symm;rw [e3] at e1;exact (List.perm_cons _).1 (e1.trans (h3.trans e2.symm))
theorem FO {n : Nat} : ∀ (m : Nat) {g : G}, A4 n g → ∀ x, x ∈ lN m g → A4 n x
  | 0,g,h,x,hx => by simp [lN] at hx;subst hx;exact h
  | m + 1,g,h,x,hx => by
    unfold lN at hx;split at hx
    · simp at hx;subst hx;exact h
    · rename_i k hc;rcases bS.1 hx with rfl | hx
      · exact h.one hc
      · exact FO m (h.rest hc) x hx
theorem IV {n : Nat} {f : As} : ∀ (m : Nat) {g : G}, A4 n g → ∀ {M : Int}, Sem (lN m g) f M ↔ G9 g f M
  | 0,g,h,M => PM
  | m + 1,g,h,M => by
    unfold lN;split
    · exact PM
    · rename_i k hc;simp only [Sem,IV m (h.rest hc)];exact SX h hc
theorem SG {n : Nat} {f : As} {l : List G} (h : ∀ g,g ∈ l → A4 n g) {M : Int} : Sem (qR l) f M ↔ Sem l f M := by
  unfold qR;rw [oN (dK _ _)];exact IW fun g hg M => IV _ (h g hg)
theorem DH {n : Nat} : ∀ (m : Nat) {g : G}, A4 n g → g.1.length ≤ m → ∀ x, x ∈ lN m g → iI x = none
  | 0,g,h,hl,x,hx => by exact absurd (fP.1 (Nat.le_zero.1 hl)) h.ne
  | m + 1,g,h,hl,x,hx => by
    unfold lN at hx;split at hx
    · rename_i hc;simp at hx;subst hx;exact hc
    · rename_i k hc;obtain ⟨h1,hne,hk,hs⟩ := jW hc;rcases bS.1 hx with rfl | hx
      · simp [iI,nD]
      · refine DH m (h.rest hc) ?_ x hx;show (g.1.eraseIdx k).length ≤ m;rw [gD,if_pos hk];omega
theorem zG {n : Nat} : ∀ (m : Nat) {g : G}, A4 n g → ((lN m g).flatMap (·.1)).Perm g.1
  | 0,g,h => by simp [lN]
  | m + 1,g,h => by
    unfold lN;split
    · simp
    · rename_i k hc;obtain ⟨h1,hne,hk,hs⟩ := jW hc;rw [bJ];exact (List.Perm.append_left _ (zG m (h.rest hc))).trans (jV g.1 k 0 hk)
theorem zG8 {m : Nat} : ∀ {g : G},g.2 ≠ [] → ∀ x,x ∈ lN m g → x.2 ≠ [] := by
  induction m with
  | zero => intro g h x hx;simp [lN] at hx;subst hx;exact h
  | succ m ih =>
    intro g h x hx;unfold lN at hx;split at hx
    · simp at hx;subst hx;exact h
    · rename_i k hc;rcases bS.1 hx with rfl | hx
      · simp [nD]
      · refine ih ?_ x hx;show gL _ ≠ [];rw [Ne,P8,mI];exact h
theorem JM {g : G} (h : g.2 = []) : ∀ m, lN m g = [g]
  | 0 => rfl
  | m + 1 => by unfold lN;rw [show iI g = none by unfold iI;rw [if_pos (.inr h)]]
theorem JN {m : Nat} : ∀ {g : G} {K : Nat},1 ≤ K → g.2.length ≤ K → ∀ x,x ∈ lN m g → x.2.length ≤ K := by
  induction m with
  | zero => intro g K _ h x hx;simp [lN] at hx;subst hx;exact h
  | succ m ih =>
    intro g K h1 h x hx;unfold lN at hx;split at hx
    · simp at hx;subst hx;exact h
    · rename_i k hc;rcases bS.1 hx with rfl | hx
      · simpa [nD] using h1
      · refine ih h1 ?_ x hx;exact bL (rP _) (by rw [aY];exact h)
def upd (f : As) (a : Int) (x : Int × SP) : As := fun b => if b = a then x else f b
def HQ (f : As) (a b : Int) : As := fun x => if x = a then f b else if x = b then f a else f x
def wN (c : Cx) (s : Ev) (x : Int × SP) : (Int × SP) × Int × Bool :=
  if s.k = 0 then (if x.1 ∈ s.ids then (x,0,decide ((s.ids.length : Int) - 1 ≤ c.st)) else (x,1,decide ((s.ids.length : Int) ≤ c.st)))
  else if s.k = 1 then
    let b := c.bs.getD x.1.toNat (0,0,0)
    let q := uP b.2.2 (nI c.ks c.ls b.1) s.n c.er x.2
    ((x.1,q.1),0,q.2)
  else if s.k = 2 then let q := zE x.2 s.n c.sl;((x.1,q.1),0,q.2)
  else if s.k = 3 then ((x.1,(s.n,s.n + 1)),0,vT x.2.1 x.2.2 s.n)
  else if s.k = 5 then (x,0,decide (x.1 = s.n))
  else (x,0,true)
theorem IR {α : Type} {l : List α} {i : Nat} (x : α) (h : i < l.length) : l.set i (l.getD i x) = l := by
  simp [List.getD,h]
theorem C7 {c : Cx} {w : W} {i : Nat} {s : Ev} (h : i < w.2.2.length) :
    kA c w i s = ((w.1,w.2.1 + (wN c s (gP w i,gC w i)).2.1,w.2.2.set i (wN c s (gP w i,gC w i)).1.2),(wN c s (gP w i,gC w i)).2.2) := by
  have e : w.2.2.set i (gC w i) = w.2.2 := IR _ h;unfold kA wN;split
  · split <;> simp [e]
  · split
    · simp [sC]
    · split
      · simp [sC]
      · split
        · simp [sC]
        · split <;> simp [e]
theorem GV {c : Cx} {s : Ev} {x : Int × SP} : (wN c s x).1.1 = x.1 := by
  unfold wN
  repeat' split
  all_goals rfl
def D2 (c : Cx) (s : Ev) (f f' : As) (d : Int) : Prop :=
  ((wN c s (f s.a)).2.2 = true ∧ f' = upd f s.a (wN c s (f s.a)).1 ∧ d = (wN c s (f s.a)).2.1) ∨ (s.k = 4 ∧ f' = HQ f s.a s.b ∧ d = 0)
theorem tE {bs : List Int} {w : W} {f : As} (h1 : w.1.length = bs.length) (h2 : w.2.2.length = bs.length) :
    oF bs w f ↔ ∀ j (hj : j < bs.length),gP w j = (f bs[j]).1 ∧ gC w j = (f bs[j]).2 := by
  constructor
  · intro h j hj;exact ⟨AN h hj,AO h hj⟩
  · intro h;constructor
    · refine lB (by simp [h1]) fun j hj hj' => ?_
      have := (h j (by omega)).1
      unfold gP at this;simp only [List.getD,aB hj,mS] at this;simp [this]
    · refine lB (by simp [h2]) fun j hj hj' => ?_
      have := (h j (by omega)).2
      unfold gC at this;simp only [List.getD,aB hj,mS] at this;simp [this]
theorem xF {bs : List Int} {a : Int} (ha : a ∈ bs) : ∃ h : bs.idxOf a < bs.length,bs[bs.idxOf a] = a := by
  have h := gW ha;exact ⟨h,List.getElem_idxOf h⟩
theorem AE {bs : List Int} (hn : bs.Nodup) {i j : Nat} (hi : i < bs.length) (hj : j < bs.length) (h : bs[i] = bs[j]) : i = j := (zO5 hn).1 h
theorem fN {α : Type} {l : List α} {i j : Nat} {x d : α} (hj : i < l.length) : (l.set i x).getD j d = if j = i then x else l.getD j d := by
  by_cases e : j = i
  · subst e;simp [List.getD,hj]
  · rw [if_neg e];simp [List.getD,iG (Ne.symm e)]
theorem XH {c : Cx} {n : Nat} {g : G} (ok : A4 n g) {s : Ev} (ha : s.a ∈ g.1) (hb : s.k = 4 → s.b ∈ g.1 ∧ s.a ≠ s.b) {f' : As} {M : Int} :
    G9 (g.1,gL (mG c s g)) f' M ↔ ∃ f d,D2 c s f f' d ∧ G9 g f (M - d) := by
  rw [Q0];obtain ⟨hi,hia⟩ := xF ha;have hnd := ok.nd;constructor
  · rintro ⟨v,hv,hf,hm⟩;unfold mG at hv;obtain ⟨w,hw,hv⟩ := gG.1 hv;have wo := ok.ws w hw;have h1 := wo.pl;have h2 := wo.cl;rcases bH.1 hv with hv | hv
    · split at hv
      · rename_i hok;simp only [bK] at hv;subst hv;rw [C7 (by omega)] at hok hf hm
        simp only at hok hf hm;generalize hi' : g.1.idxOf s.a = i at *;have hf' := (tE (w := (w.1,w.2.1 + (wN c s (gP w i,gC w i)).2.1,w.2.2.set i (wN c s (gP w i,gC w i)).1.2)) h1 (by simp [h2])).1 hf
        have ea : upd f' s.a (gP w i,gC w i) s.a = (gP w i,gC w i) := by unfold upd;rw [if_pos rfl]
        refine ⟨upd f' s.a (gP w i,gC w i),_,.inl ⟨by rw [ea];exact hok,?_,rfl⟩,w,hw,(tE h1 h2).2 fun j hj => ?_,by rw [ea];show w.2.1 ≤ _;omega⟩
        · rw [ea];funext b;unfold upd;by_cases e : b = s.a
          · rw [if_pos e,e];obtain ⟨q1,q2⟩ := hf' i hi;rw [hia] at q1 q2;refine Prod.ext ?_ ?_
            · rw [GV,← q1];rfl
            · rw [← q2];unfold gC;rw [fN (by omega),if_pos rfl]
          · rw [if_neg e,if_neg e]
        · obtain ⟨q1,q2⟩ := hf' j hj;unfold upd;by_cases e : g.1[j] = s.a
          · rw [if_pos e];have : j = i := AE hnd hj hi (e.trans hia.symm);subst this;exact ⟨rfl,rfl⟩
          · rw [if_neg e];refine ⟨by rw [← q1];rfl,?_⟩
            rw [← q2];unfold gC;rw [fN (by omega),if_neg]
            rintro rfl;exact e hia
      · cases hv
    · split at hv
      · rename_i hk;simp only [bK] at hv;subst hv;obtain ⟨hbm,hab⟩ := hb hk;obtain ⟨hj,hjb⟩ := xF hbm;generalize hi' : g.1.idxOf s.a = i at *;generalize hj' : g.1.idxOf s.b = k at *;have hik : i ≠ k := by rintro rfl;exact hab (hia.symm.trans hjb)
        have hf' := (tE (w := oT w i k) (by simp [oT,h1]) (by simp [oT,h2])).1 hf
        refine ⟨HQ f' s.a s.b,0,.inr ⟨hk,?_,rfl⟩,w,hw,(tE h1 h2).2 fun j hj0 => ?_,by have : (oT w i k).2.1 = w.2.1 := rfl;omega⟩
        · funext x;unfold HQ;by_cases e : x = s.a
          · subst e;rw [if_pos rfl,if_neg (Ne.symm hab),if_pos rfl]
          · by_cases e' : x = s.b
            · subst e';rw [if_neg e,if_pos rfl,if_pos rfl]
            · rw [if_neg e,if_neg e',if_neg e,if_neg e']
        · unfold HQ;by_cases e : g.1[j] = s.a
          · rw [if_pos e];have : j = i := AE hnd hj0 hi (e.trans hia.symm);subst this;obtain ⟨q1,q2⟩ := hf' k hj;rw [hjb] at q1 q2;rw [← q1,← q2];constructor
            · unfold gP oT;simp only;rw [fN (by simp;omega),if_pos rfl];rfl
            · unfold gC oT;simp only;rw [fN (by simp;omega),if_pos rfl];rfl
          · rw [if_neg e];by_cases e' : g.1[j] = s.b
            · rw [if_pos e'];have : j = k := AE hnd hj0 hj (e'.trans hjb.symm);subst this;obtain ⟨q1,q2⟩ := hf' i hi;rw [hia] at q1 q2;rw [← q1,← q2];constructor
              · unfold gP oT;simp only;rw [fN (by simp;omega),if_neg hik,fN (by omega),if_pos rfl];rfl
              · unfold gC oT;simp only;rw [fN (by simp;omega),if_neg hik,fN (by omega),if_pos rfl];rfl
            · rw [if_neg e'];have n1 : j ≠ i := by rintro rfl;exact e hia
              have n2 : j ≠ k := by rintro rfl;exact e' hjb
              obtain ⟨q1,q2⟩ := hf' j hj0;rw [← q1,← q2];constructor
              · unfold gP oT;simp only;rw [fN (by simp;omega),if_neg n2,fN (by omega),if_neg n1]
              · unfold gC oT;simp only;rw [fN (by simp;omega),if_neg n2,fN (by omega),if_neg n1]
      · cases hv
  · rintro ⟨f,d,hst,w,hw,hf,hm⟩;have wo := ok.ws w hw;have h1 := wo.pl;have h2 := wo.cl;have hf' := (tE h1 h2).1 hf;have hxa : (gP w (g.1.idxOf s.a),gC w (g.1.idxOf s.a)) = f s.a := by
      obtain ⟨q1,q2⟩ := hf' _ hi;rw [hia] at q1 q2;exact Prod.ext q1 q2
    rcases hst with ⟨hok,rfl,rfl⟩ | ⟨hk,rfl,rfl⟩
    · refine ⟨(kA c w (g.1.idxOf s.a) s).1,gG.2 ⟨w,hw,bH.2 (.inl ?_)⟩,?_,?_⟩
      · rw [if_pos (by rw [C7 (by omega),hxa];exact hok)];exact bK.2 rfl
      · rw [C7 (by omega),hxa]
        refine (tE (bs := g.1) (w := (w.1,w.2.1 + (wN c s (f s.a)).2.1,w.2.2.set (g.1.idxOf s.a) (wN c s (f s.a)).1.2)) h1 (by simp [h2])).2 fun j hj => ?_
        obtain ⟨q1,q2⟩ := hf' j hj;unfold upd;by_cases e : g.1[j] = s.a
        · rw [if_pos e];have : j = g.1.idxOf s.a := AE hnd hj hi (e.trans hia.symm);refine ⟨?_,?_⟩
          · rw [GV];show gP w j = _;rw [q1,e]
          · unfold gC;simp only;rw [fN (by omega),if_pos this]
        · rw [if_neg e];refine ⟨q1,?_⟩;unfold gC;simp only;rw [fN (by omega),if_neg (by rintro rfl;exact e hia)]
          exact q2
      · rw [C7 (by omega),hxa];show w.2.1 + _ ≤ _;omega
    · obtain ⟨hbm,hab⟩ := hb hk;obtain ⟨hj,hjb⟩ := xF hbm;have hxb : gP w (g.1.idxOf s.b) = (f s.b).1 ∧ gC w (g.1.idxOf s.b) = (f s.b).2 := by
        obtain ⟨q1,q2⟩ := hf' _ hj;rw [hjb] at q1 q2;exact ⟨q1,q2⟩
      have hxa' : gP w (g.1.idxOf s.a) = (f s.a).1 ∧ gC w (g.1.idxOf s.a) = (f s.a).2 := by rw [← hxa];exact ⟨rfl,rfl⟩
      refine ⟨oT w (g.1.idxOf s.a) (g.1.idxOf s.b),gG.2 ⟨w,hw,bH.2 (.inr (by rw [if_pos hk];exact bK.2 rfl))⟩,?_,by show w.2.1 ≤ M;omega⟩
      generalize hi' : g.1.idxOf s.a = i at *;generalize hj' : g.1.idxOf s.b = k at *;have hik : i ≠ k := by rintro rfl;exact hab (hia.symm.trans hjb)
      refine (tE (by simp [oT,h1]) (by simp [oT,h2])).2 fun j hj0 => ?_
      unfold HQ;by_cases e : g.1[j] = s.a
      · rw [if_pos e];have : j = i := AE hnd hj0 hi (e.trans hia.symm);subst this;rw [← hxb.1,← hxb.2];constructor
        · unfold gP oT;simp only;rw [fN (by simp;omega),if_neg hik,fN (by omega),if_pos rfl];rfl
        · unfold gC oT;simp only;rw [fN (by simp;omega),if_neg hik,fN (by omega),if_pos rfl];rfl
      · rw [if_neg e];by_cases e' : g.1[j] = s.b
        · rw [if_pos e'];have : j = k := AE hnd hj0 hj (e'.trans hjb.symm);subst this;rw [← hxa'.1,← hxa'.2];constructor
          · unfold gP oT;simp only;rw [fN (by simp;omega),if_pos rfl];rfl
          · unfold gC oT;simp only;rw [fN (by simp;omega),if_pos rfl];rfl
        · rw [if_neg e'];have n1 : j ≠ i := by rintro rfl;exact e hia
          have n2 : j ≠ k := by rintro rfl;exact e' hjb
          obtain ⟨q1,q2⟩ := hf' j hj0;rw [← q1,← q2];constructor
          · unfold gP oT;simp only;rw [fN (by simp;omega),if_neg n2,fN (by omega),if_neg n1]
          · unfold gC oT;simp only;rw [fN (by simp;omega),if_neg n2,fN (by omega),if_neg n1]
theorem N3 {g : G} {f f' : As} {M : Int} (h : ∀ b,b ∈ g.1 → f b = f' b) : G9 g f M ↔ G9 g f' M := by
  unfold G9 oF;rw [jL (g := fun b => (f' b).1) (fun b hb => by rw [h b hb]),jL (g := fun b => (f' b).2) (fun b hb => by rw [h b hb])]
theorem sJ {f f' : As} : ∀ {gs : List G} {M : Int}, (∀ g, g ∈ gs → ∀ b, b ∈ g.1 → f b = f' b) → (Sem gs f M ↔ Sem gs f' M)
  | [],M,_ => Iff.rfl
  | g :: gs,M,h => by
    simp only [Sem,N3 (h g aR),sJ (fun x hx => h x (aI _ hx))]
end Go.Ld
namespace Go.Proofs.YtmmmeebiobjnbaaGreat
open Go Go.Ab
attribute [local irreducible] VC AW cF aS
set_option maxHeartbeats 4000000
def A9 (m st er sl : Int) : Bool := decide (0 ≤ min (min (min m st) er) sl) && decide (max (max (max m st) er) sl ≤ 1048576)
theorem WC (m st er sl : Int) : aS Tryz.prog 28 [iE m st er sl] [] (.b (A9 m st er sl)) [] := by
  refine bW T Tryz.func28 rfl rfl rfl rfl ?_
  (repeat' (first|refine wS ?_|refine wR ?_|(refine rg 0 (cD (cQ rfl rfl) rfl (aV ?_)))|(refine rg 1 (iB T rfl (iB T rfl (iB T rfl (iB T rfl (vV (zK1 rfl rfl rfl rfl) (vV (gO rfl rfl) (mV ?_)))))));refine bO rfl rfl ?_ ?_<;>(intro hb;rw [hb];(try simp only [nm] at hb);try (exfalso;omega));(all_goals first|(refine gT (fW T rfl (gT (lW T rfl (gT (fW T rfl (gT (lW T rfl (gT (fV T ?_)))))))));refine gT (lW T rfl (gT (fW T rfl (gT (lW T rfl (gT (vV (zK2 rfl rfl rfl rfl) (gT (vV (iF rfl rfl) ?_))))))))))|(iterate 10 refine gF ?_));(all_goals (refine pW rfl (aV ?_))))|refine nZ ?_));all_goals
    refine dC (.inl rfl) rfl (nB ?_);rw [EY];simp only [A9,aL,decide_eq_true_eq]
    first | omega | (simp;omega)
theorem YL (l : List Int) (v : Int) (hl : l.length ≤ 1000) : aS Tryz.prog 16 [.rowE (ints l) 1,.i v] [] (.b (decide (v ∈ l))) [] := by
  have hlen : (ints l).length = l.length := by simp
  refine bW T Tryz.func16 rfl rfl rfl rfl ?_
  (repeat' (first|refine wS ?_|refine wB ?_|(refine rg 0 (aV ?_))|(refine rg 1 (aV ?_))|refine nZ ?_));refine dQ (X := {k : Nat // k ≤ l.length ∧ (v ∈ l ↔ v ∈ l.drop k)}) (fun k => [(0,.rowE (ints l) 1),(1,.i v),(5,.i k.1)]) (fun _ => []) (fun k => l.length - k.1) ⟨0,by simp⟩ (gM []) ?_
  rintro ⟨k,hk,hf⟩;dsimp only;by_cases hlt : k < l.length
  · repeat' (first|refine wS ?_|refine wB ?_|refine wK ?_|refine wR ?_|(refine wC rfl (fun hb => ?_) (fun hb => ?_) <;> (((try simp only [nm] at hb);try (exfalso;omega))))|(refine rg 2 (dH rfl (qW T rfl (vV (aM rfl rfl) ?_))))|(refine rg 4 (dH rfl (vV (ix T rfl (by omega) (dU l) (lO (k := k) (by omega))) (lW T rfl (mW rfl (vV (dX rfl rfl) ?_))))))|(refine rg 5 (aV ?_))|(refine iA 3 rfl rfl rfl (by omega) (by omega) ?_)|(refine nZ ?_))
    · refine dC (.inl rfl) rfl (nB ?_);have : v ∈ l := by rw [← hb];exact aQ hlt
      simp [this]
    · refine ⟨⟨k + 1,by omega,?_⟩,by dsimp only;omega,gM []⟩
      rw [hf,aT hlt];simp only [bS];exact ⟨fun h => h.resolve_left (fun e => hb e.symm),.inr⟩
  · (repeat' (first|refine wS ?_|refine wR ?_|refine wE ?_|(refine wC rfl (fun hb => ?_) (fun hb => ?_) <;> (((try simp only [nm] at hb);try (exfalso;omega))))|(refine rg 2 (dH rfl (qW T rfl (vV (aM rfl rfl) ?_))))|(refine rg 6 (aV ?_))|(refine nZ ?_)));refine dC (.inl rfl) rfl (nB ?_)
    rw [cY (by omega)] at hf
    simp at hf;simp [hf]
structure uM (ks : List KD) (ls : List LT) (ps : List Int) (bs : List BX) : Prop where
  len : ps.length = bs.length
  p : ∀ i : Nat,i < ps.length → (i : Int) ∈ ps
  k : ∀ (i : Nat) (h : i < ks.length),0 ≤ ks[i].2 ∧ ks[i].2 ≤ 1048576
  l : ∀ (i : Nat) (h : i < ls.length),0 ≤ ls[i].1 ∧ ls[i].1 < ks.length
  b : ∀ (i : Nat) (h : i < bs.length),-1 ≤ bs[i].1 ∧ bs[i].1 < ls.length ∧ 0 ≤ bs[i].2.1 ∧ bs[i].2.1 ≤ 20000 ∧ (bs[i].1 = -1 → bs[i].2.1 = 0) ∧ 0 ≤ bs[i].2.2 ∧ bs[i].2.2 ≤ 1073741824
open Classical in
noncomputable def sQ (ks : List KD) (ls : List LT) (ps : List Int) (bs : List BX) : Bool := decide (uM ks ls ps bs)
theorem vD {ks : List KD} {ls : List LT} {ps : List Int} {bs : List BX} (h : ¬ uM ks ls ps bs) : sQ ks ls ps bs = false := by unfold sQ;simp [h]
theorem MU {ks : List KD} {ls : List LT} {ps : List Int} {bs : List BX} (h : uM ks ls ps bs) : sQ ks ls ps bs = true := by unfold sQ;simp [h]
theorem zE1 (ks : List KD) (ls : List LT) (ps : List Int) (bs : List BX) (h1 : ks.length ≤ 1000) (h2 : ls.length ≤ 1000) (h3 : ps.length ≤ 1000) (h4 : bs.length ≤ 1000) :
    aS Tryz.prog 29 [.rowE (gN ks) 2,.rowE (iS ls) 3,.rowE (ints ps) 1,.rowE (dR bs) 3] [] (.b (sQ ks ls ps bs)) [] := by
  have e1 : (gN ks).length = ks.length := by simp
  have e2 : (iS ls).length = ls.length := by simp
  have e3 : (ints ps).length = ps.length := by simp
  have e4 : (dR bs).length = bs.length := by simp
  refine bW T Tryz.func29 rfl rfl rfl rfl ?_
  repeat' (first|refine wS ?_|refine wB ?_|refine wK ?_|refine wR ?_|(refine wC rfl ?_ ?_<;>(intro hb;(try simp only [nm] at hb);try (exfalso;omega)))|(refine rg 0 (aV ?_))|(refine rg 1 (mW rfl (qW T rfl (mW rfl (qW T rfl (vV (fZ rfl rfl) ?_))))))|(refine rg 2 (aV ?_))|(refine rg 3 (aV ?_))|refine nZ ?_)
  · (refine dC (.inl rfl) rfl (nB (vD fun h => ?_).symm);have := h.len;omega)
  have hlen : ps.length = bs.length := by omega
  refine dQ (X := {k : Nat // k ≤ ps.length ∧ ∀ i : Nat,i < k → (i : Int) ∈ ps}) (fun k => [(0,.rowE (gN ks) 2),(1,.rowE (iS ls) 3),(2,.rowE (ints ps) 1),(3,.rowE (dR bs) 3),(9,.i k.1)]) (fun _ => []) (fun k => ps.length - k.1) ⟨0,by omega,fun i hi => by omega⟩ (gM []) ?_
  rintro ⟨k,hk,hp⟩;dsimp only;by_cases hlt : k < ps.length
  · repeat' (first|refine wS ?_|refine wB ?_|refine wK ?_|refine wR ?_|(refine wC rfl (fun hb => ?_) (fun hb => ?_) <;> (((try simp only [nm] at hb);try (exfalso;omega))))|(refine rg 4 (dH rfl (qW T rfl (vV (aM rfl rfl) ?_))))|(refine rg 6 (dH rfl (vV (by exact fE rfl rfl (YL ps _ h3) rfl rfl rfl) ?_));refine vV (dI rfl) ?_)|(refine rg 7 (aV ?_))|(refine iA 5 rfl rfl rfl (by omega) (by omega) ?_)|(refine nZ ?_))
    · (refine dC (.inl rfl) rfl (nB (vD fun h => ?_).symm);exact hb (h.p k hlt))
    · refine ⟨⟨k + 1,by omega,fun i hi => ?_⟩,by dsimp only;omega,gM []⟩
      by_cases e : i = k
      · subst e;exact hb
      · exact hp i (by omega)
  have hpA : ∀ i : Nat,i < ps.length → (i : Int) ∈ ps := fun i hi => hp i (by omega)
  clear hp
  (repeat' (first|refine wS ?_|refine wB ?_|refine wE ?_|(refine wC rfl ?_ ?_<;>(intro hb;(try simp only [nm] at hb);try (exfalso;omega)))|(refine rg 4 (dH rfl (qW T rfl (vV (aM rfl rfl) ?_))))|(refine rg 8 (aV ?_))|refine nZ ?_));refine dQ (X := {k : Nat // k ≤ ks.length ∧ ∀ (i : Nat) (h : i < ks.length),i < k → 0 ≤ ks[i].2 ∧ ks[i].2 ≤ 1048576}) (fun k => [(0,.rowE (gN ks) 2),(1,.rowE (iS ls) 3),(2,.rowE (ints ps) 1),(3,.rowE (dR bs) 3),(10,.i k.1)]) (fun _ => []) (fun k => ks.length - k.1) ⟨0,by omega,fun i _ hi => by omega⟩ (gM []) ?_
  rintro ⟨k1,hk1,hq⟩;dsimp only;by_cases hlt1 : k1 < ks.length
  · (repeat' (first|refine wS ?_|refine wB ?_|refine wK ?_|refine wR ?_|refine tK rfl ?_|(refine wC rfl (fun hb => ?_) (fun hb => ?_) <;> (((try simp only [nm] at hb);try (exfalso;omega))))|(refine rg 9 (dH rfl (qW T rfl (vV (aM rfl rfl) ?_))))|(refine rg 11 (dH rfl (vV (ix T rfl (by omega) (vQ ks) (B4 (k := k1) hlt1)) (iB T rfl (vV (aM rfl rfl) (mV ?_)))));refine bO rfl rfl (fun hb => ?_) (fun hb => ?_) <;> ((rw [hb];(try simp only [nm] at hb);try ((exfalso;omega);done)));(all_goals first|(refine gT (mW rfl (gT (mW rfl (gT (vV (ix T rfl (by omega) (vQ ks) (B4 (k := k1) hlt1)) (gT (fW T rfl (gT (lV T ?_)))))))));refine gT (vV (eU rfl rfl) ?_))|(iterate 6 refine gF ?_));(all_goals (refine pV ?_)))|(refine rg 12 (aV ?_))|(refine iA 10 rfl rfl rfl (by omega) (by omega) ?_)|(refine nZ ?_)));all_goals first
      | (refine dC (.inl rfl) rfl (nB (vD fun h => ?_).symm);have := h.k k1 hlt1;omega)
      | (refine ⟨⟨k1 + 1, by omega, fun i hi hik => ?_⟩, by dsimp only; omega, gM []⟩
         by_cases e : i = k1
         · subst e;omega
         · exact hq i hi (by omega))
  have hkA : ∀ (i : Nat) (h : i < ks.length),0 ≤ ks[i].2 ∧ ks[i].2 ≤ 1048576 := fun i hi => hq i hi (by omega)
  clear hq
  (repeat' (first|refine wS ?_|refine wB ?_|refine wE ?_|(refine wC rfl ?_ ?_<;>(intro hb;(try simp only [nm] at hb);try (exfalso;omega)))|(refine rg 9 (dH rfl (qW T rfl (vV (aM rfl rfl) ?_))))|(refine rg 13 (aV ?_))|refine nZ ?_));refine dQ (X := {k : Nat // k ≤ ls.length ∧ ∀ (i : Nat) (h : i < ls.length),i < k → 0 ≤ ls[i].1 ∧ ls[i].1 < ks.length}) (fun k => [(0,.rowE (gN ks) 2),(1,.rowE (iS ls) 3),(2,.rowE (ints ps) 1),(3,.rowE (dR bs) 3),(11,.i k.1)]) (fun _ => []) (fun k => ls.length - k.1) ⟨0,by omega,fun i _ hi => by omega⟩ (gM []) ?_
  rintro ⟨k2,hk2,hq⟩;dsimp only;by_cases hlt2 : k2 < ls.length
  · (repeat' (first|refine wS ?_|refine wB ?_|refine wK ?_|refine wR ?_|refine tK rfl ?_|(refine wC rfl (fun hb => ?_) (fun hb => ?_) <;> (((try simp only [nm] at hb);try (exfalso;omega))))|(refine rg 14 (dH rfl (qW T rfl (vV (aM rfl rfl) ?_))))|(refine rg 16 (dH rfl (vV (ix T rfl (by omega) (zH ls) (I8 (k := k2) hlt2)) (iB T rfl (vV (aM rfl rfl) (mV ?_)))));refine bO rfl rfl (fun hb => ?_) (fun hb => ?_) <;> ((rw [hb];(try simp only [nm] at hb);try ((exfalso;omega);done)));(all_goals first|(refine gT (mW rfl (gT (mW rfl (gT (vV (ix T rfl (by omega) (zH ls) (I8 (k := k2) hlt2)) (gT (fW T rfl (gT (lV T ?_)))))))));refine gT (mW rfl (gT (qW T rfl (gT (vV (gO rfl rfl) ?_))))))|(iterate 8 refine gF ?_));(all_goals (refine pV ?_)))|(refine rg 17 (aV ?_))|(refine iA 15 rfl rfl rfl (by omega) (by omega) ?_)|(refine nZ ?_)));all_goals first
      | (refine dC (.inl rfl) rfl (nB (vD fun h => ?_).symm);have := h.l k2 hlt2;omega)
      | (refine ⟨⟨k2 + 1, by omega, fun i hi hik => ?_⟩, by dsimp only; omega, gM []⟩
         by_cases e : i = k2
         · subst e;omega
         · exact hq i hi (by omega))
  have hlA : ∀ (i : Nat) (h : i < ls.length),0 ≤ ls[i].1 ∧ ls[i].1 < ks.length := fun i hi => hq i hi (by omega)
  clear hq
  (repeat' (first|refine wS ?_|refine wB ?_|refine wE ?_|(refine wC rfl ?_ ?_<;>(intro hb;(try simp only [nm] at hb);try (exfalso;omega)))|(refine rg 14 (dH rfl (qW T rfl (vV (aM rfl rfl) ?_))))|(refine rg 18 (aV ?_))|refine nZ ?_));refine dQ (X := {k : Nat // k ≤ bs.length ∧ ∀ (i : Nat) (h : i < bs.length),i < k → -1 ≤ bs[i].1 ∧ bs[i].1 < ls.length ∧ 0 ≤ bs[i].2.1 ∧ bs[i].2.1 ≤ 20000 ∧ (bs[i].1 = -1 → bs[i].2.1 = 0) ∧ 0 ≤ bs[i].2.2 ∧ bs[i].2.2 ≤ 1073741824}) (fun k => [(0,.rowE (gN ks) 2),(1,.rowE (iS ls) 3),(2,.rowE (ints ps) 1),(3,.rowE (dR bs) 3),(12,.i k.1)]) (fun _ => []) (fun k => bs.length - k.1) ⟨0,by omega,fun i _ hi => by omega⟩ (gM []) ?_
  rintro ⟨k3,hk3,hq⟩;dsimp only;by_cases hlt3 : k3 < bs.length
  · (repeat' (first|refine wS ?_|refine wB ?_|refine wK ?_|refine wR ?_|refine tK rfl ?_|(refine wC rfl (fun hb => ?_) (fun hb => ?_) <;> (((try simp only [nm] at hb);try (exfalso;omega))))|(refine rg 19 (dH rfl (qW T rfl (vV (aM rfl rfl) ?_))))|(refine rg 21 (dH rfl (vV (ix T rfl (by omega) (kG bs) (EN (k := k3) hlt3)) (lW T rfl (cD (cK T rfl) rfl (bA T rfl rfl rfl rfl rfl rfl (by decide) rfl ?_))))))|(refine rg 22 (iB T rfl (vV (aM rfl rfl) (mV ?_)));refine bO rfl rfl (fun hb => ?_) (fun hb => ?_) <;> ((rw [hb];(try simp only [nm] at hb);try ((exfalso;omega);done)));(all_goals first|(refine gT (fW T rfl (gT (lW T rfl (gT (mW rfl (gT (qW T rfl (gT (vV (gO rfl rfl) ?_))))))))))|(iterate 5 refine gF ?_));(all_goals (refine pW rfl (mV ?_)));(all_goals first|(refine gK ?_)|(refine bO rfl rfl (fun hb => ?_) (fun hb => ?_) <;> ((rw [hb];(try simp only [nm] at hb);try ((exfalso;omega);done)))));(all_goals first|(refine gT (fW T rfl (gT (lW T rfl (gT (vV (aM rfl rfl) ?_))))))|(iterate 3 refine gF ?_));(all_goals (refine pW rfl (mV ?_)));(all_goals first|(refine gK ?_)|(refine bO rfl rfl (fun hb => ?_) (fun hb => ?_) <;> ((rw [hb];(try simp only [nm] at hb);try ((exfalso;omega);done)))));(all_goals first|(refine gT (fW T rfl (gT (lW T rfl (gT (vV (eU rfl rfl) ?_))))))|(iterate 3 refine gF ?_));(all_goals (refine pW rfl (mV ?_)));(all_goals first|(refine gK ?_)|(refine bO rfl rfl (fun hb => ?_) (fun hb => ?_) <;> ((rw [hb];(try simp only [nm] at hb);try ((exfalso;omega);done)))));(all_goals first|(refine gT (fW T rfl (gT (lW T rfl (gT (vV (dX rfl rfl) (gT (mV ?_))))))))|(iterate 4 refine gF ?_));(all_goals first|(refine gK ?_)|(refine bO rfl rfl (fun hb => ?_) (fun hb => ?_) <;> ((rw [hb];(try simp only [nm] at hb);try ((exfalso;omega);done)))));(all_goals first|(refine gT (fW T rfl (gT (lW T rfl (gT (vV (fZ rfl rfl) ?_))))))|((iterate 3 first|refine gF ?_|refine gU ?_)));(all_goals first|(refine gT (pV ?_))|(refine gF ?_));(all_goals (refine pW rfl (mV ?_)));(all_goals first|(refine gK ?_)|(refine bO rfl rfl (fun hb => ?_) (fun hb => ?_) <;> ((rw [hb];(try simp only [nm] at hb);try ((exfalso;omega);done)))));(all_goals first|(refine gT (fW T rfl (gT (lW T rfl (gT (vV (aM rfl rfl) ?_))))))|(iterate 3 refine gF ?_));(all_goals (refine pW rfl (mV ?_)));(all_goals first|(refine gK ?_)|(refine bO rfl rfl (fun hb => ?_) (fun hb => ?_) <;> ((rw [hb];(try simp only [nm] at hb);try ((exfalso;omega);done)))));(all_goals first|(refine gT (fW T rfl (gT (lW T rfl (gT (vV (eU rfl rfl) ?_))))))|(iterate 3 refine gF ?_));(all_goals (refine pV ?_)))|(refine rg 23 (aV ?_))|(refine iA 20 rfl rfl rfl (by omega) (by omega) ?_)|(refine nZ ?_)));all_goals first
      | (refine dC (.inl rfl) rfl (nB (vD fun h => ?_).symm);have := h.b k3 hlt3;omega)
      | (refine ⟨⟨k3 + 1, by omega, fun i hi hik => ?_⟩, by dsimp only; omega, gM []⟩
         by_cases e : i = k3
         · subst e;omega
         · exact hq i hi (by omega))
  (repeat' (first|refine wS ?_|refine wR ?_|refine wE ?_|(refine wC rfl ?_ ?_<;>(intro hb;(try simp only [nm] at hb);try (exfalso;omega)))|(refine rg 19 (dH rfl (qW T rfl (vV (aM rfl rfl) ?_))))|(refine rg 24 (aV ?_))|refine nZ ?_));refine dC (.inl rfl) rfl (nB (MU ?_).symm)
  exact ⟨hlen,hpA,hkA,hlA,fun i hi => hq i hi (by omega)⟩
abbrev wQ (ks : List KD) (ls : List LT) (ps : List Int) (bs : List BX) : AV := .agg [.rowE (gN ks) 2,.rowE (iS ls) 3,.rowE (ints ps) 1,.rowE (dR bs) 3]
def yI7 (ks : List KD) (ls : List LT) (ps : List Int) (bs : List BX) : Prop := 1 ≤ ps.length ∧ ps.length ≤ 8 ∧ bs.length ≤ 8 ∧ ks.length ≤ 10 ∧ ls.length ≤ 10
theorem zV3 {ks : List KD} {ls : List LT} {ps : List Int} {bs : List BX} (h : yI7 ks ls ps bs) (ht : sQ ks ls ps bs = true) : zD0 ks ls ps bs := by
  have ht : uM ks ls ps bs := by
    unfold sQ at ht;simpa using ht
  obtain ⟨h1,h2,h3,h4,h5⟩ := h;exact ⟨h1,h2,ht.len,h4,h5,ht.k,ht.l,fun i hi => Z5 ps.length ps rfl ht.p _ (aQ hi),ht.b⟩
theorem SE {m st er sl : Int} (h : A9 m st er sl = true) : lS m st er sl := by
  simp only [A9,aL,decide_eq_true_eq] at h;unfold lS;omega
theorem yZ {n f t : Int} (h : f ≤ n ∧ n ≤ t) : aS Tryz.prog 40 [.i n,.i f,.i t] [] (.b true) [] := by
  have := oM n f t
  rwa [show jA n f t = true by simp [jA,h]] at this
theorem GY {l : List Int} {n : Int} {i : Nat} (h : i < l.length) (hn : ¬ S9 l n i) : GZ l n = false := by
  unfold GZ;simp only [decide_eq_false_iff_not];exact fun hh => hn (hh i h)
theorem BJ {l : List Int} {n : Int} (h : ∀ i,i < l.length → S9 l n i) : GZ l n = true := by
  unfold GZ;simp only [decide_eq_true_eq];exact h
theorem QO {l : List Int} {k : Nat} (h : k < l.length) : l.getD k 0 = l[k] := by simp [List.getD,h]
theorem ER (l : List Int) (n : Int) (hl : l.length ≤ 9223372036854775807) (hn : 0 ≤ n ∧ n ≤ 1000) : aS Tryz.prog 41 [.rowE (ints l) 1,.i n] [] (.b (GZ l n)) [] := by
  have hlen : (ints l).length = l.length := by simp
  refine bW T Tryz.func41 rfl rfl rfl rfl ?_
  (repeat' (first|refine wS ?_|refine wB ?_|(refine rg 0 (aV ?_))|(refine rg 1 (mW rfl (qW T rfl (mV ?_))))|refine nZ ?_));refine dQ (X := {k : Nat // k ≤ l.length ∧ ∀ i,i < k → S9 l n i}) (fun k => [(0,.rowE (ints l) 1),(1,.i n),(7,.rowE (ints l) 1),(8,.i (ints l).length),(9,.i k.1)]) (fun _ => []) (fun k => l.length - k.1) ⟨0,by omega,fun i hi => by omega⟩ (gM []) ?_
  rintro ⟨k,hk,hq⟩;dsimp only;by_cases hlt : k < l.length
  · have hg := QO hlt;cases hw : jA l[k] 0 (n - 1)
    · have c := hw ▸ oM l[k] 0 (n - 1);have hno : ¬ S9 l n k := fun h => by
        unfold S9 at h;rw [hg] at h;rw [show jA l[k] 0 (n - 1) = true by simp [jA];omega] at hw
        cases hw
      (repeat' (first|refine wS ?_|refine wB ?_|refine wK ?_|refine wR ?_|refine wT ?_|(refine wC rfl ?_ ?_<;>(intro hb;(try simp only [nm] at hb);try (exfalso;omega)))|(refine rg 2 (vV (aM rfl rfl) ?_))|(refine rg 3 (mW rfl (vV (ix T rfl (by omega) (dU l) (lO (k := k) hlt)) (lW T rfl (rK ?_)))))|(refine rg 4 (dH rfl (vV (cP rfl rfl (by omega) (by omega)) (vV (kC (c)) (vV (dI rfl) (mV ?_)))));(iterate 3 refine gF ?_);(iterate 7 refine gU ?_);refine gF (pV ?_))|(refine rg 5 (aV ?_))|refine nZ ?_));exact dC (.inl rfl) rfl (nB (GY hlt hno).symm)
    · have c := hw ▸ oM l[k] 0 (n - 1);simp only [jA,aL,decide_eq_true_eq] at hw;by_cases hk0 : 0 < k
      · have hlt' : k - 1 < l.length := by omega
        have hg' := QO hlt';have hc' : (ints l)[((k : Int) - 1).toNat]? = some [AV.i l[k - 1]] := by rw [show ((k : Int) - 1).toNat = k - 1 by omega];exact lO hlt'
        (repeat' (first|refine wS ?_|refine wB ?_|refine wK ?_|refine wR ?_|(refine wC rfl ?_ ?_<;>(intro hb;(try simp only [nm] at hb);try (exfalso;omega)))|(refine rg 2 (vV (aM rfl rfl) ?_))|(refine rg 3 (mW rfl (vV (ix T rfl (by omega) (dU l) (lO (k := k) hlt)) (lW T rfl (rK ?_)))))|(refine rg 4 (dH rfl (vV (cP rfl rfl (by omega) (by omega)) (vV (kC (c)) (vV (dI rfl) (mW rfl (yN rfl (yV (eU rfl rfl) (yM ?_))))))));refine bO rfl rfl ?_ ?_<;>(intro hb;rw [hb];(try simp only [nm] at hb);try (exfalso;omega));(all_goals (refine yN rfl (yN rfl (yN rfl (yV (cP rfl rfl (by omega) (by omega)) (yV (ix T rfl (by omega) (dU l) hc') (yO T rfl (yV (iF rfl rfl) (gT (pW rfl (pV ?_))))))))))))|(refine rg 5 (aV ?_))|(refine rg 6 (vV (cC rfl rfl (by omega) (by omega)) (mV ?_)))|refine nZ ?_));all_goals first
          | (exfalso;omega)
          | (refine dC (.inl rfl) rfl (nB (GY hlt (fun h => ?_)).symm);unfold S9 at h;rw [hg,hg'] at h;omega)
          | (refine ⟨⟨k + 1, by omega, fun i hi => ?_⟩, by dsimp only; omega, gM []⟩
             by_cases e : i = k
             · subst e;unfold S9;rw [hg,hg'];omega
             · exact hq i (by omega))
      · obtain rfl : k = 0 := by omega
        (repeat' (first|refine wS ?_|refine wB ?_|refine wK ?_|refine wU ?_|(refine wC rfl ?_ ?_<;>(intro hb;(try simp only [nm] at hb);try (exfalso;omega)))|(refine rg 2 (vV (aM rfl rfl) ?_))|(refine rg 3 (mW rfl (vV (ix T rfl (by omega) (dU l) (lO (k := 0) hlt)) (lW T rfl (rK ?_)))))|(refine rg 4 (dH rfl (vV (cP rfl rfl (by omega) (by omega)) (vV (kC (c)) (vV (dI rfl) (mW rfl (yN rfl (yV (eU rfl rfl) (yM ?_))))))));(iterate 7 refine gF ?_);refine gT (pW rfl (pV ?_)))|(refine rg 6 (vV (cC rfl rfl (by omega) (by omega)) (mV ?_)))|refine nZ ?_));all_goals first
          | (exfalso;omega)
          | (refine ⟨⟨1, by omega, fun i hi => ?_⟩, by dsimp only; omega, gM []⟩
             obtain rfl : i = 0 := by omega
             unfold S9;rw [hg];omega)
  · (repeat' (first|refine wS ?_|refine wR ?_|refine wE ?_|(refine wC rfl (fun hb => ?_) (fun hb => ?_) <;> (((try simp only [nm] at hb);try (exfalso;omega))))|(refine rg 2 (vV (aM rfl rfl) ?_))|(refine rg 7 (aV ?_))|(refine nZ ?_)));exact dC (.inl rfl) rfl (nB (BJ fun i hi => hq i (by omega)).symm)
theorem bB (l : List Int) : ∀ e,e ∈ ints l → AV.idfL e = true := by
  intro e he;obtain ⟨i,_,rfl⟩ := bC.1 he;rfl
theorem pR (l : List BX) : ∀ e,e ∈ dR l → AV.idfL e = true := by
  intro e he;obtain ⟨i,_,rfl⟩ := bC.1 he;rfl
theorem G0 (l : List Int) (h0 : 0 < l.length) (hl : l.length ≤ 1000) : aS Tryz.prog 45 [.rowE (ints l) 1] [] (.sl 0 0 l.length 1) [.arr (ints l) 1] := by
  refine bW T Tryz.func45 rfl rfl rfl rfl ?_
  repeat' (first|refine wS ?_|refine wK ?_|refine wR ?_|refine wU ?_|(refine rg 0 (aV ?_))|(refine rg 1 (mW rfl (vV (J7 T rfl rfl rfl (by simpa using h0)) ?_)))|(refine rg 3 (cD (by exact bD T rfl rfl (by decide) (by decide) rfl rfl rfl) rfl ?_);refine mW rfl (fY T rfl rfl rfl rfl rfl rfl (by simp) (jJ.row (dU l)) (zJ l) (by simp;omega) (by simp;omega) rfl ?_);refine aV ?_)|refine nZ ?_)
  simp only [List.take_nil,List.drop_nil,List.nil_append,Nat.zero_add,aY,OZ,iX,jR];exact ⟨.inl rfl,[1],_,rfl,rfl,rfl,⟨.inr (aC rfl rfl (bB l)),trivial⟩,by decide,N4⟩
theorem zR (l : List BX) (h0 : 0 < l.length) (hl : l.length ≤ 1000) : aS Tryz.prog 32 [.rowE (dR l) 3] [] (.sl 0 0 l.length 3) [.arr (dR l) 3] := by
  refine bW T Tryz.func32 rfl rfl rfl rfl ?_
  repeat' (first|refine wS ?_|refine wK ?_|refine wR ?_|refine wU ?_|(refine rg 0 (aV ?_))|(refine rg 1 (mW rfl (vV (J7 T rfl rfl rfl (by simpa using h0)) ?_)))|(refine rg 3 (cD (by exact bD T rfl rfl (by decide) (by decide) rfl rfl rfl) rfl ?_);refine mW rfl (fY T rfl rfl rfl rfl rfl rfl (by simp) (jJ.row (kG l)) (UK l) (by simp;omega) (by simp;omega) rfl ?_);refine aV ?_)|refine nZ ?_)
  simp only [List.take_nil,List.drop_nil,List.nil_append,Nat.zero_add,aY,OZ,iX,jR];exact ⟨.inl rfl,[1],_,rfl,rfl,rfl,⟨.inr (aC rfl rfl (pR l)),trivial⟩,by decide,N4⟩
section
variable {ks : List KD} {ls : List LT} {ps : List Int} {bs : List BX} {m st er sl k a b n id lot ct ta done : Int} {ids : List Int} {M : Int}
theorem LW (f : zD0 ks ls ps bs) (ha : 0 ≤ a) (hid : ps[a.toNat]? = some id) (hbx : bs[id.toNat]? = some (lot, ct, ta)) (hi0 : 0 ≤ id) {ok cn : Bool} (hno : ok = false ∨ ok = true ∧ cn = false)
    (hag : aS Tryz.prog 19 [iE m st er sl,.rowE (gN ks) 2,.rowE (iS ls) 3,.rowE (ints ps) 1,.rowE (dR bs) 3,oG k a b n ids] [] (.tup [.i M,.b ok]) [])
    (hcan : aS Tryz.prog 44 [iE m st er sl,.agg [.i lot,.i ct,.i ta],oG k a b n ids,.i done] [] (.b cn) []) :
    aS Tryz.prog 20 [iE m st er sl,.rowE (gN ks) 2,.rowE (iS ls) 3,.rowE (ints ps) 1,.rowE (dR bs) 3,oG k a b n ids,.i done] [] (.tup [.nils,.nils,.b false]) [] := by
  have hc1 : (ints ps)[a.toNat]? = some [AV.i id] := by simp [hid]
  have hc2 : (dR bs)[id.toNat]? = some [AV.i lot,AV.i ct,AV.i ta] := by simp [hbx]
  rcases hno with rfl | ⟨rfl,rfl⟩
  all_goals
    refine bW T Tryz.func20 rfl rfl rfl rfl ?_
    (repeat' (first|refine wS ?_|refine wR ?_|refine wT ?_|(refine rg 0 (cD (cQ rfl rfl) rfl (cD (cQ rfl rfl) rfl (UX rfl (aV ?_)))))|(refine rg 1 (mW rfl (iB T rfl (vV (ix T rfl (by omega) (dU ps) hc1) (lW T rfl (aV ?_))))))|(refine rg 2 (lW T rfl (dH rfl (dH rfl (lW T rfl (vV (kC (hag)) (mW rfl (xW rfl (xW rfl (rK ?_))))))))))|(refine cH (id := 3) 95 yK0 (rM 37 13) yK1 cO rfl (by decide +kernel) (dN rfl (dV rfl (dI rfl) (dM ?_)));(all_goals first|(refine tL T ?_)|(refine dG ?_));(all_goals first|(refine tM ?_)|(refine dG ?_));(all_goals first|(refine tM ?_)|(refine dG ?_));(all_goals first|(refine dT rfl (ix T rfl (by omega) (kG bs) hc2) ?_)|(refine dG ?_));(all_goals first|(refine tL T ?_)|(refine dG ?_));(all_goals first|(refine tL T ?_)|(refine dG ?_));(all_goals first|(refine tM ?_)|(refine dG ?_));(all_goals first|(refine dT rfl (kC (hcan)) ?_)|(refine dG ?_));(all_goals first|(refine dT rfl (dI rfl) ?_)|(refine dG ?_));(all_goals (refine dV rfl (by first|exact iT rfl rfl|exact fD rfl rfl) ?_;refine dE ?_)))|(refine rg 4 (UX rfl (aV ?_)))|refine nZ ?_));exact rQ
theorem OP (f : zD0 ks ls ps bs) (ha : 0 ≤ a) (hid : ps[a.toNat]? = some id) (hbx : bs[id.toNat]? = some (lot, ct, ta)) (hi0 : 0 ≤ id) (hk2 : k ≠ 2) (hk4 : ¬ (k = 4 ∧ done = 1))
    (hag : aS Tryz.prog 19 [iE m st er sl,.rowE (gN ks) 2,.rowE (iS ls) 3,.rowE (ints ps) 1,.rowE (dR bs) 3,oG k a b n ids] [] (.tup [.i M,.b true]) [])
    (hcan : aS Tryz.prog 44 [iE m st er sl,.agg [.i lot,.i ct,.i ta],oG k a b n ids,.i done] [] (.b true) []) :
    aS Tryz.prog 20 [iE m st er sl,.rowE (gN ks) 2,.rowE (iS ls) 3,.rowE (ints ps) 1,.rowE (dR bs) 3,oG k a b n ids,.i done] [] (.tup [.sl 0 0 ps.length 1,.sl 1 0 bs.length 3,.b true]) [.arr (ints ps) 1,.arr (dR bs) 3] := by
  have hc1 : (ints ps)[a.toNat]? = some [AV.i id] := by simp [hid]
  have hc2 : (dR bs)[id.toNat]? = some [AV.i lot,AV.i ct,AV.i ta] := by simp [hbx]
  have hn1 := f.n1;have hn8 := f.n8;have hle := f.len;have cl1 := G0 ps (by omega) (by omega)
  have cl2 := zR bs (by omega) (by omega)
  refine bW T Tryz.func20 rfl rfl rfl rfl ?_
  (repeat' (first|refine wS ?_|refine wB ?_|refine wK ?_|refine wR ?_|refine wU ?_|(refine wC rfl ?_ ?_<;>(intro hb;(try simp only [nm] at hb);try (exfalso;omega)))|(refine rg 0 (cD (cQ rfl rfl) rfl (cD (cQ rfl rfl) rfl (UX rfl (aV ?_)))))|(refine rg 1 (mW rfl (iB T rfl (vV (ix T rfl (by omega) (dU ps) hc1) (lW T rfl (aV ?_))))))|(refine rg 2 (lW T rfl (dH rfl (dH rfl (lW T rfl (vV (kC (hag)) (mW rfl (xW rfl (xW rfl (rK ?_))))))))))|(refine cH (id := 3) 95 yK0 (rM 37 13) yK1 cO rfl (by decide +kernel) (dN rfl (dV rfl (dI rfl) (dN rfl (tO T rfl (tN rfl (tN rfl (dT rfl (ix T rfl (by omega) (kG bs) hc2) (tO T rfl (tL T ?_)))))))));refine tN rfl (dT rfl (kC (hcan)) (dT rfl (dI rfl) (dV rfl (fD rfl rfl) (dE ?_)))))|(refine rg 5 (mW rfl (cD (by exact fL rfl rfl cl1 (.inr ⟨rfl,rfl,by simp⟩)) rfl ?_));refine mW rfl (cD (by exact fL rfl rfl cl2 (.inr ⟨rfl,rfl,by simp⟩)) rfl ?_);refine rK ?_)|(refine rg 6 (iB T rfl (vV (dX rfl rfl) (aV ?_))))|(refine rg 8 (iB T rfl (vV (dX rfl rfl) (mV ?_)));refine bO rfl rfl ?_ ?_<;>(intro hb;rw [hb];(try simp only [nm] at hb);try (exfalso;omega));(all_goals first|(refine gT (mW rfl (gT (vV (dX rfl rfl) ?_))))|(iterate 2 refine gF ?_));(all_goals (refine pW rfl (aV ?_))))|(refine rg 10 (dH rfl (UX rfl (aV ?_))))|refine nZ ?_));all_goals exact ⟨.inl rfl,[2,3],_,rfl,rfl,rfl,⟨.inr (aC rfl (bE _ (bB ps)) (bB ps)),.inr (aC rfl (bE _ (pR bs)) (pR bs)),trivial⟩,by decide,N4⟩
theorem OQ (f : zD0 ks ls ps bs) (ha : 0 ≤ a) (hid : ps[a.toNat]? = some id) (hbx : bs[id.toNat]? = some (lot, ct, ta)) (hi0 : 0 ≤ id) (hk2 : k = 2) (hd : 0 ≤ done ∧ done ≤ ct)
    (hag : aS Tryz.prog 19 [iE m st er sl,.rowE (gN ks) 2,.rowE (iS ls) 3,.rowE (ints ps) 1,.rowE (dR bs) 3,oG k a b n ids] [] (.tup [.i M,.b true]) [])
    (hcan : aS Tryz.prog 44 [iE m st er sl,.agg [.i lot,.i ct,.i ta],oG k a b n ids,.i done] [] (.b true) []) :
    aS Tryz.prog 20 [iE m st er sl,.rowE (gN ks) 2,.rowE (iS ls) 3,.rowE (ints ps) 1,.rowE (dR bs) 3,oG k a b n ids,.i done] [] (.tup [.sl 0 0 ps.length 1,.sl 1 0 bs.length 3,.b true]) [.arr (ints ps) 1,.arr (dR (bs.set id.toNat (lot,ct - done,ta))) 3] := by
  have hc1 : (ints ps)[a.toNat]? = some [AV.i id] := by simp [hid]
  have hc2 : (dR bs)[id.toNat]? = some [AV.i lot,AV.i ct,AV.i ta] := by simp [hbx]
  obtain ⟨hy1,hy2⟩ := aA.1 hbx;have hb0 := f.b _ hy1;rw [hy2] at hb0;simp only at hb0;have hbl : (dR bs).length = bs.length := by simp
  have hB : ∀ θ,((dR bs).map (AV.mapL θ))[0 + id.toNat]? = some [AV.i lot,AV.i ct,AV.i ta] := fun θ => by rw [bE θ (pR bs),Nat.zero_add];exact hc2
  have hS : ∀ θ,((dR bs).map (AV.mapL θ)).set (0 + id.toNat) [AV.i lot,AV.i (ct - done),AV.i ta] = dR (bs.set id.toNat (lot,ct - done,ta)) := fun θ => by rw [bE θ (pR bs),Nat.zero_add];simp [pZ]
  have hn1 := f.n1;have hn8 := f.n8;have hle := f.len;have cl1 := G0 ps (by omega) (by omega)
  have cl2 := zR bs (by omega) (by omega)
  refine bW T Tryz.func20 rfl rfl rfl rfl ?_
  (repeat' (first|refine wS ?_|refine wB ?_|refine wK ?_|refine wR ?_|refine wU ?_|(refine wC rfl ?_ ?_<;>(intro hb;(try simp only [nm] at hb);try (exfalso;omega)))|(refine rg 0 (cD (cQ rfl rfl) rfl (cD (cQ rfl rfl) rfl (UX rfl (aV ?_)))))|(refine rg 1 (mW rfl (fW T rfl (vV (aJ T rfl rfl rfl rfl) (vV (ix T rfl (by omega) (dU ps) hc1) (vV (aJ T rfl rfl rfl rfl) (aV ?_)))))))|(refine rg 2 (vV (aJ T rfl rfl rfl rfl) (dH rfl (dH rfl (vV (aJ T rfl rfl rfl rfl) (vV (kC (hag)) (mW rfl (xW rfl (xW rfl (rK ?_))))))))))|(refine cH (id := 3) 95 yK0 (rM 37 13) yK1 cO rfl (by decide +kernel) (dN rfl (dV rfl (dI rfl) (dN rfl (tO T rfl (tN rfl (tN rfl (dT rfl (ix T rfl (by omega) (kG bs) hc2) (tO T rfl (tL T ?_)))))))));refine tN rfl (dT rfl (kC (hcan)) (dT rfl (dI rfl) (dV rfl (fD rfl rfl) (dE ?_)))))|(refine rg 5 (mW rfl (cD (by exact fL rfl rfl cl1 (.inr ⟨rfl,rfl,by simp⟩)) rfl ?_));refine mW rfl (cD (by exact fL rfl rfl cl2 (.inr ⟨rfl,rfl,by simp⟩)) rfl ?_);refine rK ?_)|(refine rg 6 (fW T rfl (vV (aJ T rfl rfl rfl rfl) (vV (dX rfl rfl) (aV ?_)))))|(refine rg 7 (dH rfl (vV (by exact aK T rfl rfl rfl rfl rfl (by omega) (by omega)) ?_));refine fW T rfl (vV (by exact aJ T rfl rfl (bM rfl (hB _)) rfl) ?_);refine mW rfl (vV (cP rfl rfl (by omega) (by omega)) (vV (by exact aK T rfl rfl rfl rfl rfl (by omega) (by omega)) ?_));refine fW T rfl (bA T rfl rfl rfl rfl rfl rfl (by decide) (lZ rfl (hB _) rfl) ?_))|(refine rg 10 (dH rfl (UX rfl (aV ?_))))|refine nZ ?_));all_goals first | (exfalso;omega) | exact ⟨.inl rfl,[2,3],_,rfl,rfl,rfl,⟨.inr (aC rfl (bE _ (bB ps)) (bB ps)),.inr (aC rfl (hS _) (pR _)),trivial⟩,by decide,N4⟩
end
section
variable {P : Program} {env : eA} {h : Hp} {d : Option Nat} {ty : TypeId} {pos : String} {af : Array Edge} {g : Option (Nat × Bool)}
end
section
variable {ks : List KD} {ls : List LT} {ps : List Int} {bs : List BX} {m st er sl k a b n id lot ct ta done : Int} {ids : List Int} {M : Int}
theorem OO (f : zD0 ks ls ps bs) (ha : 0 ≤ a) (hid : ps[a.toNat]? = some id) (hbx : bs[id.toNat]? = some (lot, ct, ta)) (hi0 : 0 ≤ id) (hk4 : k = 4) (hd : done = 1) {idb : Int} (hbb : 0 ≤ b) (hab : a ≠ b) (hidb : ps[b.toNat]? = some idb)
    (hag : aS Tryz.prog 19 [iE m st er sl,.rowE (gN ks) 2,.rowE (iS ls) 3,.rowE (ints ps) 1,.rowE (dR bs) 3,oG k a b n ids] [] (.tup [.i M,.b true]) [])
    (hcan : aS Tryz.prog 44 [iE m st er sl,.agg [.i lot,.i ct,.i ta],oG k a b n ids,.i done] [] (.b true) []) :
    aS Tryz.prog 20 [iE m st er sl,.rowE (gN ks) 2,.rowE (iS ls) 3,.rowE (ints ps) 1,.rowE (dR bs) 3,oG k a b n ids,.i done] [] (.tup [.sl 0 0 ps.length 1,.sl 1 0 bs.length 3,.b true]) [.arr (ints ((ps.set a.toNat idb).set b.toNat id)) 1,.arr (dR bs) 3] := by
  have hc1 : (ints ps)[a.toNat]? = some [AV.i id] := by simp [hid]
  have hc2 : (dR bs)[id.toNat]? = some [AV.i lot,AV.i ct,AV.i ta] := by simp [hbx]
  obtain ⟨hx1,_⟩ := aA.1 hid;obtain ⟨hz1,_⟩ := aA.1 hidb;have hpl : (ints ps).length = ps.length := by simp
  have hA : ∀ θ,((ints ps).map (AV.mapL θ))[0 + a.toNat]? = some [AV.i id] := fun θ => by rw [bE θ (bB ps),Nat.zero_add];exact hc1
  have hB : ∀ θ,((ints ps).map (AV.mapL θ))[0 + b.toNat]? = some [AV.i idb] := fun θ => by rw [bE θ (bB ps),Nat.zero_add];simp [hidb]
  have hB2 : ∀ θ x,(((ints ps).map (AV.mapL θ)).set (0 + a.toNat) x)[0 + b.toNat]? = some [AV.i idb] := fun θ x => by rw [iG (by omega)];exact hB θ
  have hS : ∀ θ,(((ints ps).map (AV.mapL θ)).set (0 + a.toNat) [AV.i idb]).set (0 + b.toNat) [AV.i id] = ints ((ps.set a.toNat idb).set b.toNat id) := fun θ => by rw [bE θ (bB ps),Nat.zero_add,Nat.zero_add];simp [pZ]
  have hn1 := f.n1;have hn8 := f.n8;have hle := f.len;have cl1 := G0 ps (by omega) (by omega)
  have cl2 := zR bs (by omega) (by omega)
  refine bW T Tryz.func20 rfl rfl rfl rfl ?_
  (repeat' (first|refine wS ?_|refine wB ?_|refine wK ?_|refine wR ?_|refine wU ?_|(refine wC rfl ?_ ?_<;>(intro hb;(try simp only [nm] at hb);try (exfalso;omega)))|(refine rg 0 (cD (cQ rfl rfl) rfl (cD (cQ rfl rfl) rfl (UX rfl (aV ?_)))))|(refine rg 1 (mW rfl (fW T rfl (vV (aJ T rfl rfl rfl rfl) (vV (ix T rfl (by omega) (dU ps) hc1) (vV (aJ T rfl rfl rfl rfl) (aV ?_)))))))|(refine rg 2 (vV (aJ T rfl rfl rfl rfl) (dH rfl (dH rfl (vV (aJ T rfl rfl rfl rfl) (vV (kC (hag)) (mW rfl (xW rfl (xW rfl (rK ?_))))))))))|(refine cH (id := 3) 95 yK0 (rM 37 13) yK1 cO rfl (by decide +kernel) (dN rfl (dV rfl (dI rfl) (dN rfl (tO T rfl (tN rfl (tN rfl (dT rfl (ix T rfl (by omega) (kG bs) hc2) (tO T rfl (tL T ?_)))))))));refine tN rfl (dT rfl (kC (hcan)) (dT rfl (dI rfl) (dV rfl (fD rfl rfl) (dE ?_)))))|(refine rg 5 (mW rfl (cD (by exact fL rfl rfl cl1 (.inr ⟨rfl,rfl,by simp⟩)) rfl ?_));refine mW rfl (cD (by exact fL rfl rfl cl2 (.inr ⟨rfl,rfl,by simp⟩)) rfl ?_);refine rK ?_)|(refine rg 6 (fW T rfl (vV (aJ T rfl rfl rfl rfl) (vV (dX rfl rfl) (aV ?_)))))|(refine rg 8 (fW T rfl (vV (aJ T rfl rfl rfl rfl) (vV (dX rfl rfl) (mV ?_))));refine bO rfl rfl ?_ ?_<;>(intro hb;rw [hb];(try simp only [nm] at hb);try (exfalso;omega));(all_goals (refine yN rfl (yV (dX rfl rfl) (pW rfl (aV ?_))))))|(refine nC (id := 9) 95 [[],[],[1],[],[],[4],[],[],[7],[6,7,8],rM 6 4,[],[],[12],[11,12,13],rM 11 4,[0,1,2,6,7,8,9,10,11,12,13,14,15],[0,1,2,6,7,8,9,10,11,12,13,14,15,16]] (rM 75 17) [[],[75],[75],[75,76,77],rM 75 4,rM 75 4,rM 75 6,rM 75 7,rM 75 7,rM 75 6,rM 75 6,rM 75 11,rM 75 12,rM 75 12,rM 75 11,rM 75 11,[78,79,80],[78,79,80]] [(17,2)] cO rfl (by decide +kernel) (cN rfl rfl rfl rfl (by exact bN rfl) ?_);refine cN rfl rfl rfl rfl (by exact bF T rfl rfl rfl) ?_;refine cN rfl rfl rfl rfl (by exact aJ T rfl rfl rfl rfl) ?_;refine cN rfl rfl rfl rfl (by exact bN rfl) ?_;refine cN rfl rfl rfl rfl (by exact bF T rfl rfl rfl) ?_;refine cN rfl rfl rfl rfl (by exact aJ T rfl rfl rfl rfl) ?_;refine cN rfl rfl rfl rfl (by exact bN rfl) ?_;refine cN rfl rfl rfl rfl (by exact bF T rfl rfl rfl) ?_;refine cN rfl rfl rfl rfl (by exact aJ T rfl rfl rfl rfl) ?_;refine cN rfl rfl rfl rfl (by exact aK T rfl rfl rfl rfl rfl (by omega) (by omega)) ?_;refine cN rfl rfl rfl rfl (by exact aJ T rfl rfl (bM rfl (hB _)) rfl) ?_;refine cN rfl rfl rfl rfl (by exact bN rfl) ?_;refine cN rfl rfl rfl rfl (by exact bF T rfl rfl rfl) ?_;refine cN rfl rfl rfl rfl (by exact aJ T rfl rfl rfl rfl) ?_;refine cN rfl rfl rfl rfl (by exact aK T rfl rfl rfl rfl rfl (by omega) (by omega)) ?_;refine cN rfl rfl rfl rfl (by exact aJ T rfl rfl (bM rfl (hA _)) rfl) ?_;refine cN rfl rfl rfl rfl (by exact aK T rfl rfl rfl rfl rfl (by omega) (by omega)) ?_;refine uV rfl rfl rfl rfl (aG rfl) T rfl rfl rfl rfl rfl rfl (by decide) (tY rfl (hA _) rfl) ?_;refine rJ rfl rfl rfl (by exact rfl) ?_;refine vV (by exact aK T rfl rfl rfl rfl rfl (by omega) (by omega)) ?_;refine bA T rfl rfl rfl rfl rfl rfl (by decide) (lZ rfl (hB2 _ _) rfl) ?_)|(refine rg 10 (dH rfl (UX rfl (aV ?_))))|refine nZ ?_));all_goals first | (exfalso;omega) | exact ⟨.inl rfl,[2,3],_,rfl,rfl,rfl,⟨.inr (aC rfl (hS _) (bB _)),.inr (aC rfl (bE _ (pR bs)) (pR bs)),trivial⟩,by decide,N4⟩
end
end Go.Proofs.YtmmmeebiobjnbaaGreat
namespace Go.Proofs.YtmmmeebiobjnbaaGreat
open Go Go.Ab Go.Shelf Go.Proofs
shelf_lay Lays.n189 Nm 189 at Tryz as laysSort
theorem MW (l : List Int) (hl : l.length ≤ 17592186043904) : aS Tryz.prog 52 [.sl 0 0 l.length 1] [.arr (ints l) 1] (.tup []) [.arr (ints (iU l)) 1] :=
  OR ⟨_,Tryz.func52,by kernel_rfl,by kernel_rfl⟩ (fun blk off cap zs w h1 h2 h3 => Any.slices_Sort_int laysSort blk off cap zs w h1 h2 h3) (fun p cap w => Any.slices_Sort_int_none laysSort p cap w) l hl
end Go.Proofs.YtmmmeebiobjnbaaGreat
namespace Go.Proofs.YtmmmeebiobjnbaaGreat
open Go Go.Ab
attribute [local irreducible] VC AW cF aS AY VY BV
set_option maxHeartbeats 4000000
theorem GP (l : List Int) (hl : l.length ≤ 17592186043904) : aS Tryz.prog 45 [.rowE (ints l) 1] [] (.sl 0 0 l.length 1) [.arr (ints l) 1] := by
  have hll : (ints l).length = l.length := by simp
  refine bW T Tryz.func45 rfl rfl rfl rfl ?_
  repeat' (first|refine wS ?_|refine wK ?_|refine wT ?_|refine wU ?_|(refine rg 0 (aV ?_))|(refine rg 1 (mV ?_);refine sO T rfl rfl rfl rfl fun b hb=>?_;cases b)|refine nZ ?_)
  · (repeat' (first|refine wR ?_|(refine rg 3 (cD (by exact bD T rfl rfl (by decide) (by decide) rfl rfl rfl) rfl ?_);refine mW rfl (fY T rfl rfl rfl rfl rfl rfl (by decide) (.row (dU l)) (zJ l) (by simp;omega) (by simp;omega) rfl ?_);refine aV ?_)|(refine nZ ?_)));exact ⟨.inl rfl,[1],_,rfl,(by show AV.sl 1 0 (0 + (ints l).length) 1 = AV.sl 1 0 l.length 1;simp),rfl,⟨.inr (aC rfl rfl (bB _)),trivial⟩,by decide,N4⟩
  · have hl0 : l = [] := fP.1 (Classical.byContradiction fun h => by have := hb (by omega);cases this)
    subst hl0
    (repeat' (first|refine wR ?_|(refine rg 2 (vV (dJ rfl) (qC 2 1 rfl (by decide) ?_)))|refine nZ ?_));exact ⟨.inl rfl,[0],_,rfl,rfl,rfl,⟨.inr (aC rfl rfl (bB _)),trivial⟩,by decide,N4⟩
abbrev zD5 (l : List Int) : AV := .clo (.func 107) [] [.pr [.rowE (ints l) 1] 0]
theorem W7 (l : List Int) : aS Tryz.prog 71 [.rowE (ints l) 1] [] (zD5 l) [] := by
  refine OU rfl ?_;refine bW T Tryz.func71 rfl rfl rfl rfl ?_
  (repeat' (first|refine wS ?_|refine wR ?_|(refine rg 0 (cD (cQ rfl rfl) rfl (aV ?_)))|(refine rg 1 (vV (by exact kU rfl rfl) ?_);refine aV ?_)|refine nZ ?_));exact ⟨.inl rfl,[0],_,rfl,rfl,rfl,⟨.inr rfl,trivial⟩,by decide,N4⟩
def zR0 (l : List Int) (k : Nat) : List AV := match l[k]? with
  | some x => [.i x]
  | none => []
theorem FA {l : List Int} {k : Nat} (h : k < l.length) : zR0 l k = [.i l[k]] := by unfold zR0;rw [aB h]
theorem RW (l : List Int) (hl : l.length ≤ 17592186043904) : BV Tryz.prog 107 [] [.pr [.rowE (ints l) 1] 0] [] (zR0 l) l.length := by
  have hll : (ints l).length = l.length := by simp
  refine zQ4 T Tryz.func107 rfl rfl rfl rfl ?_;intro J A y hJ hy
  (repeat' (first|(first|(refine xR ?_)|(refine zT ?_))|(((refine qX hJ (eT (id := 0) ?_)));(all_goals (refine lV T ?_;(refine qV T ?_);refine mV ?_)))|refine nZ ?_));refine GW (X := {k : Nat // k ≤ l.length}) (fun k => [(0,.clo (.yield y) [] []),(5,.rowE (ints l) 1),(6,.i (ints l).length),(7,.i (k.1 : Int))]) (fun _ => []) (fun k => (k.1,false)) (fun k => l.length - k.1) ⟨0,cM _⟩ rfl (gM []) ?_
  rintro ⟨k,hkl⟩;dsimp only;by_cases hk : k < l.length
  · have hit := FA hk;have q1 : (ints l)[(k : Int).toNat]? = some [AV.i l[k]] := by rw [bQ,bT,aB hk];rfl
    generalize l[k] = x at *
    (repeat' (first|(first|(refine xR ?_)|(refine zT ?_)|(refine V8 ?_)|(refine ZP ?_))|((refine xS rfl (fun hb=>?_) (fun hb=>?_)<;>(((try simp only [nm] at hb);try ((exfalso;omega);done)))))|(((refine qX hJ (eT (id := 1) ?_)));(all_goals (refine vV (aM rfl rfl) ?_)))|(((refine qX hJ (eT (id := 2) ?_)));(all_goals (refine vV (ix T rfl (by omega) (dU _) q1) ?_;refine lV T ?_;refine aV ?_)))|(((refine EP (id := 3) ?_));((refine VB 2 hJ ?_));(dsimp only [List.take,List.drop]);(all_goals (refine yH2 ?_;refine iK ?_;refine HY hJ hy rfl rfl rfl hk hit rfl ?_));(all_goals (intro yes));(all_goals (refine zO9 hJ ?_;refine vV (dI rfl) ?_;refine T6 (by ((dsimp only [List.nil_append,List.cons_append,List.append_nil,List.length_cons,List.length_nil,List.set_cons_zero,List.set_cons_succ,List.map_cons,List.map_nil,kF,mN,mR,rX,MT,F0,X3,W9,W8,X0,E9,F2,E8,F1,Nat.zero_add,Nat.add_zero,Nat.reduceAdd,Bool.not_true,Bool.not_false];done))) ?_)))|(((refine qX hJ (eT (id := 4) ?_)));(all_goals (refine vV (cC rfl rfl (by omega) (by omega)) ?_;refine mV ?_)))|refine nZ ?_));all_goals first | (exfalso;omega) | skip
    · exact ⟨.inl rfl,fun h => (by first | (subst hb;cases h) | (cases h;done)),[],rfl⟩
    · obtain rfl := hb;exact ⟨⟨k + 1,hk⟩,by dsimp only;omega,rfl,gM []⟩
  · (repeat' (first|(first|(refine xR ?_)|(refine GX ?_))|((refine xS rfl (fun hb => ?_) (fun hb => ?_) <;> (((try simp only [nm] at hb);try ((exfalso;omega);done)))))|(((refine qX hJ (eT (id := 1) ?_)));(all_goals (refine vV (aM rfl rfl) ?_)))|(refine T6 (by ((dsimp only [List.nil_append,List.cons_append,List.append_nil,List.length_cons,List.length_nil,List.set_cons_zero,List.set_cons_succ,List.map_cons,List.map_nil,kF,mN,mR,rX,MT,F0,X3,W9,W8,X0,E9,F2,E8,F1,Nat.zero_add,Nat.add_zero,Nat.reduceAdd,Bool.not_true,Bool.not_false];done))) ?_)));all_goals first | (exfalso;omega) | skip
    exact ⟨.inr rfl,fun _ => by show k = _;omega,[],rfl⟩
abbrev yH1 (l : List Int) : Hp := [.cells [.sl 1 0 l.length 1],.arr (ints l) 1]
theorem yE2 : ∀ i : Nat,i < 1 → ([0,3] : List Nat)[i]? = some i := by decide
theorem LS (l : List Int) (hl : l.length ≤ 17592186043904) : aS Tryz.prog 141 [.nils,zD5 l] [] (.sl 0 0 l.length 1) [.arr (ints l) 1] := by
  have hit := RW l hl;refine bW T Tryz.func141 rfl rfl rfl rfl ?_
  (repeat' (first|refine wS ?_|refine wB ?_|(refine rg 0 (cD (cQ rfl rfl) rfl (aV ?_)))|(refine rg 1 (mV ?_))|refine nZ ?_));refine nY 0 0 1 rfl rfl (by decide) ?_
  refine LO [] [0,1] [(2,.ptr 0 0)] (fun k => yH1 (l.take k)) 1 rfl hit rfl rfl rfl trivial eQ rfl ⟨rfl,trivial⟩ ⟨.inr rfl,.inr rfl,trivial⟩ (by decide) (N4) (by simp) (cM _) (aG rfl) rfl (by decide) (fun k hk => by rw [FA hk];exact ⟨rfl,rfl⟩) ?_ ?_
  · intro k hk;rw [FA hk];have hks := aU hk;have hkl : (l.take k).length ≤ l.length := List.length_take_le' _ _;generalize l.take k = K at hks hkl ⊢;generalize l[k] = x at *;refine eT (id := 2) ?_;refine vV (by exact dJ rfl) ?_
    refine iK ?_;refine ⟨rfl,?_⟩
    repeat' (first|refine wB ?_|(refine rg 3 (lW T rfl (mW rfl (cD (by exact bD T rfl rfl (by decide) (by decide) rfl rfl rfl) rfl ?_)));refine fY T rfl rfl rfl rfl rfl rfl (by simp) (jJ.whole rfl rfl) rfl (by simp;omega) (by simp;omega) rfl ?_;refine bA T rfl rfl rfl rfl rfl rfl (by decide) rfl ?_)|refine nZ ?_)
    show HT _ _ _ _ (yH1 (l.take (k + 1)));rw [hks];exact ⟨[0,3],rfl,trivial,⟨.inr (by simp;rfl),.inr (aC rfl (by simp;exact bR (by simp)) (bB _)),trivial⟩,by decide,yE2⟩
  · have e : l.take l.length = l := dA;rw [e]
    (repeat' (first|refine wS ?_|refine wR ?_|(refine rg 4 (lW T rfl (aV ?_)))|refine nZ ?_));exact ⟨.inl rfl,[1],_,rfl,rfl,rfl,⟨.inr (aC rfl rfl (bB _)),trivial⟩,by decide,N4⟩
theorem UG (l : List Int) (hl : l.length ≤ 17592186043904) : aS Tryz.prog 106 [zD5 l] [] (.sl 0 0 l.length 1) [.arr (ints l) 1] := by
  have h1 := LS l hl;have hrf := QG l;refine bW T Tryz.func106 rfl rfl rfl rfl ?_
  (repeat' (first|refine wS ?_|refine wR ?_|(refine rg 0 (aV ?_))|(refine rg 1 (mW rfl (cD (by exact fL rfl rfl h1 (.inr ⟨rfl,rfl,by simp⟩)) rfl ?_));refine aV ?_)|refine nZ ?_));exact ⟨.inl rfl,[0],_,rfl,rfl,rfl,⟨.inr (aC rfl (AJ _ _) (bB _)),trivial⟩,by decide,N4⟩
theorem IL (l : List Int) (hl : l.length ≤ 17592186043904) : aS Tryz.prog 70 [zD5 l] [] (.rowE (ints (iU l)) 1) [] := by
  refine kH (by simp [wV] : l.length = (ints (iU l)).length) (TK _) ?_
  have h1 := UG l hl;have h2 := MW l hl;have hrf := QG l;generalize iU l = B at *;refine bW T Tryz.func70 rfl rfl rfl rfl ?_
  (repeat' (first|refine wS ?_|refine wR ?_|(refine rg 0 (aV ?_))|(refine rg 1 (mW rfl (cD (by exact fL rfl rfl h1 (.inr ⟨rfl,rfl,by simp⟩)) rfl ?_));refine aV ?_)|(refine rg 2 (mW rfl (eP [0] rfl rfl h2 rfl rfl (by decide) ⟨.inr (aC rfl (AJ _ _) (bB _)),trivial⟩ (by simp) rfl ?_)))|(refine rg 3 (mW rfl (aV ?_)))|refine nZ ?_));exact ⟨.inl rfl,[0],_,rfl,rfl,rfl,⟨.inr (aC rfl (AJ _ _) (bB _)),trivial⟩,by decide,N4⟩
end Go.Proofs.YtmmmeebiobjnbaaGreat
namespace Go.Pm
structure Rt (p : List Nat) : Prop where
  nd : p.Nodup
  lt : ∀ x,x ∈ p → x < p.length
abbrev lY (p : List Nat) (i : Nat) : Nat := p.getD i 0
theorem nM {p : List Nat} {i : Nat} (h : i < p.length) : lY p i = p[i] := by
  rw [lY,aD,aB h];rfl
theorem Rt.ltAt {p : List Nat} (r : Rt p) {i : Nat} (h : i < p.length) : lY p i < p.length := by
  rw [nM h];exact r.lt _ (aQ h)
theorem Rt.inj {p : List Nat} (r : Rt p) {i j : Nat} (hi : i < p.length) (hj : j < p.length) (e : lY p i = lY p j) : i = j := by
  rw [nM hi,nM hj] at e;have h := rY.1 r.nd;rcases Nat.lt_trichotomy i j with h1 | h1 | h1
  · exact absurd e (h i j hi hj h1)
  · exact h1
  · exact absurd e.symm (h j i hj hi h1)
theorem Rt.mem {p : List Nat} (r : Rt p) {x : Nat} (h : x < p.length) : x ∈ p := by
  apply Classical.byContradiction;intro hx;have h1 : (x :: p).Nodup := fG.2 ⟨hx,r.nd⟩
  have := h1.length_le_of_subset (l₂ := List.range p.length) (fun y hy => by
    rw [eW];rcases bS.1 hy with rfl | hy
    · exact h
    · exact r.lt y hy)
  simp at this;omega
theorem zZ8 {p : List Nat} (h1 : ∀ i,i < p.length → lY p i < p.length) (h2 : ∀ i j,i < p.length → j < p.length → lY p i = lY p j → i = j) : Rt p := by
  refine ⟨?_,fun x hx => ?_⟩
  · rw [List.Nodup,rY];intro i j hi hj hij e;have := h2 i j hi hj (by rw [nM hi,nM hj];exact e)
    omega
  · obtain ⟨i,hi,rfl⟩ := nT.1 hx;rw [← nM hi];exact h1 i hi
theorem zV5 {p q : List Nat} (hl : p.length = q.length) (h : ∀ i,i < p.length → lY p i = lY q i) : p = q := by
  refine lB hl fun i h1 h2 => ?_
  have := h i h1
  rwa [nM h1,nM h2] at this
theorem zX0 {f : Nat → Nat} {l : List Nat} {i : Nat} (h : i < l.length) : lY (l.map f) i = f (lY l i) := by
  rw [nM (by simpa using h),nM h];simp
theorem ZW {l : List Nat} {i j v : Nat} (h : i < l.length) : lY (l.set i v) j = if i = j then v else lY l j := by
  rw [lY,aD,gS];by_cases e : i = j
  · rw [if_pos e,if_pos e,if_pos h];rfl
  · rw [if_neg e,if_neg e,lY,aD]
def comp (p q : List Nat) : List Nat := q.map (lY p)
theorem oU (p q : List Nat) : (comp p q).length = q.length := aY _
theorem V7 {p q : List Nat} {i : Nat} (h : i < q.length) : lY (comp p q) i = lY p (lY q i) := zX0 h
def HQ (p : List Nat) (a b : Nat) : List Nat := (p.set a (lY p b)).set b (lY p a)
theorem A6 (p : List Nat) (a b : Nat) : (HQ p a b).length = p.length := by simp [HQ]
theorem X4 {p : List Nat} {a b i : Nat} (ha : a < p.length) (hb : b < p.length) : lY (HQ p a b) i = if b = i then lY p a else if a = i then lY p b else lY p i := by
  unfold HQ;rw [ZW (by simpa using hb),ZW ha]
theorem zR8 {p : List Nat} (r : Rt p) {a b : Nat} (ha : a < p.length) (hb : b < p.length) : Rt (HQ p a b) := by
  refine zZ8 (fun i hi => ?_) (fun i j hi hj e => ?_)
  · rw [A6] at hi ⊢;rw [X4 ha hb];split
    · exact r.ltAt ha
    · split
      · exact r.ltAt hb
      · exact r.ltAt hi
  · rw [A6] at hi hj;rw [X4 ha hb,X4 ha hb] at e;by_cases h1 : b = i
    · subst h1;rw [if_pos rfl] at e;by_cases h2 : b = j
      · exact h2
      · rw [if_neg h2] at e;by_cases h3 : a = j
        · rw [if_pos h3] at e;have := r.inj ha hb e;omega
        · rw [if_neg h3] at e;exact absurd (r.inj ha hj e) h3
    · rw [if_neg h1] at e;by_cases h2 : b = j
      · subst h2;rw [if_pos rfl] at e;by_cases h3 : a = i
        · rw [if_pos h3] at e;have := r.inj hb ha e;omega
        · rw [if_neg h3] at e;exact absurd (r.inj hi ha e).symm h3
      · rw [if_neg h2] at e;by_cases h3 : a = i
        · rw [if_pos h3] at e;by_cases h4 : a = j
          · omega
          · rw [if_neg h4] at e;exact absurd (r.inj hb hj e) h2
        · rw [if_neg h3] at e;by_cases h4 : a = j
          · rw [if_pos h4] at e;exact absurd (r.inj hi hb e).symm h1
          · rw [if_neg h4] at e;exact r.inj hi hj e
theorem VO {p q : List Nat} {a b : Nat} (ha : a < q.length) (hb : b < q.length) : comp p (HQ q a b) = HQ (comp p q) a b := by
  refine zV5 (by simp [oU,A6]) fun i hi => ?_
  rw [oU,A6] at hi;rw [V7 (by rw [A6];exact hi),X4 ha hb,X4 (by rw [oU];exact ha) (by rw [oU];exact hb),V7 ha,V7 hb,V7 hi]
  split
  · rfl
  · split <;> rfl
inductive Sw (x : List Nat) : Bool → List Nat → Prop
  | refl : Sw x false x
  | swap {b : Bool} {y : List Nat} {i j : Nat} : Sw x b y → i < x.length → j < x.length → i ≠ j → Sw x (!b) (HQ y i j)
theorem Sw.len {x y : List Nat} {b : Bool} (h : Sw x b y) : y.length = x.length := by
  induction h with
  | refl => rfl
  | swap _ _ _ _ ih => rw [A6];exact ih
theorem Sw.rt {x y : List Nat} {b : Bool} (h : Sw x b y) (r : Rt x) : Rt y := by
  induction h with
  | refl => exact r
  | swap h' h1 h2 _ ih => exact zR8 ih (by rw [h'.len];exact h1) (by rw [h'.len];exact h2)
theorem Sw.comp {p x y : List Nat} {b : Bool} (h : Sw x b y) : Sw (comp p x) b (comp p y) := by
  induction h with
  | refl => exact .refl
  | swap h' h1 h2 h3 ih =>
    rw [VO (by rw [h'.len];exact h1) (by rw [h'.len];exact h2)]
    exact .swap ih (by rw [oU];exact h1) (by rw [oU];exact h2) h3
abbrev bt (s : List Bool) (i : Nat) : Bool := s.getD i false
theorem zW6 {s : List Bool} {i j : Nat} {v : Bool} (h : i < s.length) : bt (s.set i v) j = if i = j then v else bt s j := by
  rw [bt,aD,gS];by_cases e : i = j
  · rw [if_pos e,if_pos e,if_pos h];rfl
  · rw [if_neg e,if_neg e,bt,aD]
def zM5 (p : List Nat) : Nat → List Bool → List Nat → Nat → List Bool × List Nat
  | 0,sn,c,_ => (sn,c)
  | f + 1,sn,c,k => if bt sn k then (sn,c) else zM5 p f (sn.set k true) (c ++ [k]) (lY p k)
def UE (p : List Nat) : Nat → List Bool × List (List Nat)
  | 0 => (List.replicate p.length false,[])
  | i + 1 => ((zM5 p p.length (UE p i).1 [] i).1,if 1 < (zM5 p p.length (UE p i).1 [] i).2.length then (UE p i).2 ++ [(zM5 p p.length (UE p i).1 [] i).2] else (UE p i).2)
def yF6 (p : List Nat) : List (List Nat) := (UE p p.length).2
structure CI (p : List Nat) (sn0 : List Bool) (i : Nat) (sn : List Bool) (c : List Nat) (k : Nat) : Prop where
  len : sn.length = p.length
  nd : c.Nodup
  lt : ∀ x,x ∈ c → x < p.length
  sn : ∀ x,x < p.length → (bt sn x = true ↔ bt sn0 x = true ∨ x ∈ c)
  new : ∀ x,x ∈ c → bt sn0 x = false
  z : c = [] → k = i
  hd : c ≠ [] → lY c 0 = i
  nx : c ≠ [] → k = lY p (lY c (c.length - 1))
  st : ∀ j,j + 1 < c.length → lY c (j + 1) = lY p (lY c j)
  k : k < p.length
theorem V9 {c : List Nat} {k j : Nat} : lY (c ++ [k]) j = if j < c.length then lY c j else if j = c.length then k else 0 := by
  rw [lY,aD];by_cases h : j < c.length
  · rw [if_pos h,aH h,lY,aD]
  · rw [if_neg h,aE (by omega)]
    by_cases h2 : j = c.length
    · rw [if_pos h2,h2];simp
    · rw [if_neg h2];rw [cX (by simp;omega)];rfl
theorem CI.step {p : List Nat} (r : Rt p) {sn0 sn : List Bool} {i k : Nat} {c : List Nat} (h : CI p sn0 i sn c k) (hb : bt sn k = false) : CI p sn0 i (sn.set k true) (c ++ [k]) (lY p k) := by
  have hk := h.k;have hkc : ¬ (bt sn0 k = true ∨ k ∈ c) := fun q => by rw [(h.sn k hk).2 q] at hb;cases hb
  refine ⟨by simp [h.len],?_,fun x hx => ?_,fun x hx => ?_,fun x hx => ?_,fun e => by simp at e,fun _ => ?_,fun _ => ?_,fun j hj => ?_,r.ltAt hk⟩
  · rw [cT];exact ⟨h.nd,by simp,fun a ha b hb e => by simp at hb;subst hb;subst e;exact hkc (.inr ha)⟩
  · rcases bH.1 hx with hx | hx
    · exact h.lt x hx
    · simp at hx;subst hx;exact hk
  · rw [zW6 (by rw [h.len];exact hk)]
    by_cases e : k = x
    · subst e;simp
    · rw [if_neg e,h.sn x hx];simp [Ne.symm e]
  · rcases bH.1 hx with hx | hx
    · exact h.new x hx
    · simp at hx;subst hx;rw [← eO];exact fun q => hkc (.inl q)
  · rw [V9];cases c with
    | nil => simp;exact h.z rfl
    | cons a c => simp;exact h.hd (by simp)
  · simp [V9]
  · simp at hj;rw [V9,V9,if_pos hj];by_cases e : j + 1 < c.length
    · rw [if_pos e];exact h.st j e
    · rw [if_neg e,if_pos (by omega)]
      have := h.nx (by intro q;subst q;simp at hj)
      rw [this,show c.length - 1 = j by omega]
structure yI8 (p : List Nat) (c : List Nat) : Prop where
  ne : c ≠ []
  nd : c.Nodup
  lt : ∀ x,x ∈ c → x < p.length
  st : ∀ j,j < c.length → lY p (lY c j) = lY c ((j + 1) % c.length)
theorem CI.fin {p : List Nat} (r : Rt p) {sn0 sn : List Bool} {i k : Nat} {c : List Nat} (h : CI p sn0 i sn c k) (hcl : ∀ x,x < p.length → bt sn0 (lY p x) = true → bt sn0 x = true) (hb : bt sn k = true) (hc : c ≠ []) : yI8 p c := by
  have hc0 : 0 < c.length := fH.2 hc;have hlast : lY c (c.length - 1) ∈ c := by rw [nM (by omega)];exact aQ _
  have hki : k = lY c 0 := by
    have hnx := h.nx hc;rcases (h.sn k h.k).1 hb with h1 | h1
    · rw [hnx] at h1;have := hcl _ (h.lt _ hlast) h1;rw [h.new _ hlast] at this;cases this
    · obtain ⟨j,hj,e⟩ := nT.1 h1;rw [← nM hj] at e;cases j with
      | zero => exact e.symm
      | succ j =>
        have h2 := h.st j hj;rw [e,hnx] at h2;have hjm : lY c j ∈ c := by rw [nM (by omega)];exact aQ _
        have h3 := r.inj (h.lt _ hlast) (h.lt _ hjm) h2;rw [nM (by omega),nM (by omega)] at h3
        have hp := rY.1 h.nd;exact absurd h3.symm (hp j (c.length - 1) (by omega) (by omega) (by omega))
  refine ⟨hc,h.nd,h.lt,fun j hj => ?_⟩
  by_cases e : j + 1 < c.length
  · rw [Nat.mod_eq_of_lt e,h.st j e]
  · have : j = c.length - 1 := by omega
    rw [show j + 1 = c.length by omega,Nat.mod_self,← hki,h.nx hc,this]
theorem AE {c : List Nat} (h : c.Nodup) {i j : Nat} (hi : i < c.length) (hj : j < c.length) (e : lY c i = lY c j) : i = j := by
  rw [nM hi,nM hj] at e;have h := rY.1 h;rcases Nat.lt_trichotomy i j with h1 | h1 | h1
  · exact absurd e (h i j hi hj h1)
  · exact h1
  · exact absurd e.symm (h j i hj hi h1)
def yE8 : Nat → Nat
  | 0 => 1
  | n + 1 => yE8 n * (n + 1)
abbrev Up (l : List Nat) : Prop := l.Pairwise (· < ·)
theorem Rt.perm {p : List Nat} (r : Rt p) : p.Perm (List.range p.length) :=
  (List.perm_ext_iff_of_nodup r.nd zO3).2 fun x => by rw [eW];exact ⟨r.lt x,r.mem⟩
end Go.Pm
namespace Go.Pm
open Go.Ab
def permB (p : List Int) : Bool := decide (iU p = nats (List.range p.length))
theorem le_tr : ∀ (a b c : Int),decide (a ≤ b) = true → decide (b ≤ c) = true → decide (a ≤ c) = true := fun a b c h1 h2 => by simp at *;omega
theorem zU0 : ∀ (a b : Int),(decide (a ≤ b) || decide (b ≤ a)) = true := fun a b => by simp;omega
theorem sorted_perm (p : List Int) : (iU p).Perm p := List.mergeSort_perm _ _
theorem sorted_up (p : List Int) : (iU p).Pairwise (fun a b => a ≤ b) :=
  (List.pairwise_mergeSort le_tr zU0 p).imp (fun h => by simpa using h)
theorem sorted_eq {p q : List Int} (h : p.Perm q) (hq : q.Pairwise (fun a b => a ≤ b)) : iU p = q :=
  List.Perm.eq_of_pairwise (le := fun a b => a ≤ b) (fun a b _ _ h1 h2 => by omega) (sorted_up p) hq ((sorted_perm p).trans h)
theorem range_le (n : Nat) : (nats (List.range n)).Pairwise (fun a b => a ≤ b) :=
  List.Pairwise.map _ (fun a b h => by omega) (CF (n := n))
end Go.Pm
