/-
  Texts of the logic and of the layer,in one module (part 4).
-/
import Derived.Test.YtmmmeebiobjnbaaGreatY3
import Derived.Test.YtmmmeebiobjnbaaGreatRows
import Derived.KernelRfl
import Derived.Shelf.Lay
import Derived.Shelf.Sort.Plain
import Derived.Shelf.Slices.In.SortNone
import Derived.Ground.NamesProg
import Derived.WalkKit
set_option linter.unusedVariables false
set_option linter.unusedSimpArgs false
set_option linter.unnecessarySimpa false
namespace Go.Proofs.YtmmmeebiobjnbaaGreat
open Go Go.Ab
def yQ3:List (Nat × TI):=[(1,⟨false,1,8,[.nilFunc]⟩),
  (2,⟨false,1,8,[.int .i64 0]⟩),
  (3,⟨false,1,8,[.int .i64 0]⟩),
  (4,⟨false,1,1,[.bool false]⟩),
  (5,⟨false,1,1,[.int .u8 0]⟩),
  (6,⟨false,1,1,[.int .u8 0]⟩),
  (7,⟨true,4,24,[.int .i64 0,.int .i64 0,.bool false,.int .u8 0]⟩),
  (8,⟨true,4,24,[.int .i64 0,.int .i64 0,.bool false,.int .u8 0]⟩),
  (9,⟨false,1,16,[.string ⟨#[]⟩]⟩),
  (10,⟨false,1,16,[.string ⟨#[]⟩]⟩),
  (11,⟨false,1,16,[.string ⟨#[]⟩]⟩),
  (12,⟨false,1,8,[.int .u64 0]⟩),
  (13,⟨true,2,24,[.string ⟨#[]⟩,.int .u64 0]⟩),
  (14,⟨true,2,24,[.string ⟨#[]⟩,.int .u64 0]⟩),
  (15,⟨false,1,8,[.pointer none]⟩),
  (16,⟨false,1,8,[.pointer none]⟩),
  (17,⟨false,1,8,[.pointer none]⟩),
  (18,⟨true,1,8,[.pointer none]⟩),
  (19,⟨true,1,8,[.pointer none]⟩),
  (21,⟨false,1,4,[.int .i32 0]⟩),
  (22,⟨false,1,24,[.slice none 0 0]⟩),
  (23,⟨false,1,24,[.slice none 0 0]⟩),
  (24,⟨false,1,24,[.slice none 0 0]⟩),
  (25,⟨false,1,24,[.slice none 0 0]⟩),
  (26,⟨true,4,96,[.slice none 0 0,.slice none 0 0,.slice none 0 0,.slice none 0 0]⟩),
  (27,⟨true,4,96,[.slice none 0 0,.slice none 0 0,.slice none 0 0,.slice none 0 0]⟩),
  (28,⟨true,4,32,[.int .i64 0,.int .i64 0,.int .i64 0,.int .i64 0]⟩),
  (29,⟨true,4,32,[.int .i64 0,.int .i64 0,.int .i64 0,.int .i64 0]⟩),
  (30,⟨false,1,24,[.slice none 0 0]⟩),
  (31,⟨false,1,8,[.nilFunc]⟩),
  (32,⟨false,1,8,[.nilFunc]⟩),
  (33,⟨false,1,8,[.nilFunc]⟩),
  (34,⟨false,1,8,[.nilFunc]⟩),
  (35,⟨false,1,8,[.pointer none]⟩),
  (36,⟨false,1,8,[.int .i64 0]⟩),
  (38,⟨false,1,8,[.nilFunc]⟩),
  (39,⟨false,1,24,[.slice none 0 0]⟩),
  (40,⟨false,1,24,[.slice none 0 0]⟩),
  (41,⟨false,1,24,[.slice none 0 0]⟩),
  (42,⟨false,1,8,[.nilFunc]⟩),
  (44,⟨false,1,8,[.nilFunc]⟩),
  (45,⟨false,1,8,[.nilFunc]⟩),
  (46,⟨true,5,56,[.int .i64 0,.int .i64 0,.int .i64 0,.int .i64 0,.slice none 0 0]⟩),
  (47,⟨true,5,56,[.int .i64 0,.int .i64 0,.int .i64 0,.int .i64 0,.slice none 0 0]⟩),
  (48,⟨true,4,32,[.int .i64 0,.int .i64 0,.int .i64 0,.int .i64 0]⟩),
  (49,⟨true,4,32,[.int .i64 0,.int .i64 0,.int .i64 0,.int .i64 0]⟩),
  (50,⟨true,10,96,[.bool false,.int .i64 0,.int .i64 0,.int .i64 0,.int .i64 0,.slice none 0 0,.int .i64 0,.int .i64 0,.int .i64 0,.int .i64 0]⟩),
  (51,⟨true,10,96,[.bool false,.int .i64 0,.int .i64 0,.int .i64 0,.int .i64 0,.slice none 0 0,.int .i64 0,.int .i64 0,.int .i64 0,.int .i64 0]⟩),
  (52,⟨false,1,8,[.nilFunc]⟩),
  (53,⟨false,1,8,[.nilFunc]⟩),
  (54,⟨false,1,8,[.nilFunc]⟩),
  (55,⟨false,1,8,[.nilFunc]⟩),
  (56,⟨false,1,8,[.nilFunc]⟩),
  (58,⟨false,1,8,[.nilFunc]⟩),
  (59,⟨false,1,8,[.nilFunc]⟩),
  (60,⟨true,3,24,[.int .i64 0,.int .i64 0,.int .i64 0]⟩),
  (61,⟨true,3,24,[.int .i64 0,.int .i64 0,.int .i64 0]⟩),
  (62,⟨false,1,8,[.nilFunc]⟩),
  (63,⟨true,4,80,[.slice none 0 0,.slice none 0 0,.int .i64 0,.slice none 0 0]⟩),
  (64,⟨true,4,80,[.slice none 0 0,.slice none 0 0,.int .i64 0,.slice none 0 0]⟩),
  (65,⟨false,1,24,[.slice none 0 0]⟩),
  (66,⟨false,1,8,[.nilFunc]⟩),
  (67,⟨false,1,8,[.nilFunc]⟩),
  (68,⟨false,1,8,[.nilFunc]⟩),
  (69,⟨false,1,8,[.nilFunc]⟩),
  (70,⟨false,1,24,[.slice none 0 0]⟩),
  (71,⟨false,1,8,[.nilFunc]⟩),
  (72,⟨false,1,8,[.nilFunc]⟩),
  (73,⟨false,1,8,[.nilFunc]⟩),
  (74,⟨false,1,8,[.pointer none]⟩),
  (76,⟨false,1,8,[.nilFunc]⟩),
  (77,⟨false,1,8,[.nilFunc]⟩),
  (78,⟨true,3,24,[.int .i64 0,.int .i64 0,.bool false]⟩),
  (79,⟨true,3,24,[.int .i64 0,.int .i64 0,.bool false]⟩),
  (80,⟨false,1,8,[.nilFunc]⟩),
  (81,⟨false,1,24,[.slice none 0 0]⟩),
  (82,⟨true,6,128,[.slice none 0 0,.slice none 0 0,.pointer none,.slice none 0 0,.slice none 0 0,.slice none 0 0]⟩),
  (83,⟨true,6,128,[.slice none 0 0,.slice none 0 0,.pointer none,.slice none 0 0,.slice none 0 0,.slice none 0 0]⟩),
  (84,⟨true,6,48,[.int .i64 0,.int .i64 0,.int .i64 0,.int .i64 0,.pointer none,.int .i64 0]⟩),
  (85,⟨true,6,48,[.int .i64 0,.int .i64 0,.int .i64 0,.int .i64 0,.pointer none,.int .i64 0]⟩),
  (86,⟨false,1,8,[.nilFunc]⟩),
  (87,⟨false,1,8,[.nilFunc]⟩),
  (88,⟨false,1,8,[.nilFunc]⟩),
  (90,⟨false,1,8,[.nilFunc]⟩),
  (91,⟨false,1,8,[.nilFunc]⟩),
  (92,⟨false,1,8,[.nilFunc]⟩),
  (93,⟨false,1,8,[.nilFunc]⟩),
  (94,⟨false,1,8,[.nilFunc]⟩),
  (95,⟨true,2,24,[.string ⟨#[]⟩,.int .i64 0]⟩),
  (96,⟨true,2,24,[.string ⟨#[]⟩,.int .i64 0]⟩),
  (97,⟨false,1,8,[.nilFunc]⟩),
  (98,⟨false,1,24,[.slice none 0 0]⟩),
  (99,⟨true,8,128,[.int .i64 0,.int .i64 0,.int .i64 0,.int .i64 0,.slice none 0 0,.slice none 0 0,.slice none 0 0,.slice none 0 0]⟩),
  (100,⟨true,8,128,[.int .i64 0,.int .i64 0,.int .i64 0,.int .i64 0,.slice none 0 0,.slice none 0 0,.slice none 0 0,.slice none 0 0]⟩),
  (101,⟨true,2,16,[.int .i64 0,.int .i64 0]⟩),
  (102,⟨true,2,16,[.int .i64 0,.int .i64 0]⟩),
  (103,⟨false,1,24,[.slice none 0 0]⟩),
  (104,⟨true,3,56,[.slice none 0 0,.int .i64 0,.slice none 0 0]⟩),
  (105,⟨true,3,56,[.slice none 0 0,.int .i64 0,.slice none 0 0]⟩),
  (106,⟨false,1,24,[.slice none 0 0]⟩),
  (107,⟨true,2,48,[.slice none 0 0,.slice none 0 0]⟩),
  (108,⟨true,2,48,[.slice none 0 0,.slice none 0 0]⟩),
  (109,⟨false,1,8,[.nilFunc]⟩),
  (110,⟨false,1,8,[.nilFunc]⟩),
  (112,⟨false,1,8,[.nilFunc]⟩),
  (113,⟨false,1,8,[.nilFunc]⟩),
  (114,⟨false,1,8,[.nilFunc]⟩),
  (115,⟨false,1,8,[.nilFunc]⟩),
  (116,⟨false,1,8,[.nilFunc]⟩),
  (118,⟨false,1,8,[.nilFunc]⟩),
  (119,⟨false,1,8,[.nilFunc]⟩),
  (121,⟨false,1,8,[.nilFunc]⟩),
  (122,⟨false,1,8,[.nilFunc]⟩),
  (123,⟨false,1,8,[.nilFunc]⟩),
  (124,⟨false,1,8,[.nilFunc]⟩),
  (125,⟨false,1,8,[.nilFunc]⟩),
  (126,⟨false,1,8,[.nilFunc]⟩),
  (127,⟨false,1,8,[.nilFunc]⟩),
  (128,⟨false,1,8,[.nilFunc]⟩),
  (129,⟨false,1,8,[.nilFunc]⟩),
  (130,⟨false,1,8,[.nilFunc]⟩),
  (132,⟨false,1,8,[.nilFunc]⟩),
  (134,⟨false,1,8,[.nilFunc]⟩),
  (136,⟨false,1,8,[.nilFunc]⟩),
  (137,⟨false,1,8,[.nilFunc]⟩),
  (139,⟨false,1,8,[.int .u64 0]⟩),
  (142,⟨false,1,8,[.nilFunc]⟩),
  (143,⟨false,1,8,[.nilFunc]⟩),
  (144,⟨false,1,8,[.nilFunc]⟩),
  (145,⟨false,1,8,[.nilFunc]⟩),
  (146,⟨false,1,8,[.nilFunc]⟩),
  (147,⟨false,1,8,[.nilFunc]⟩),
  (149,⟨false,1,8,[.nilFunc]⟩),
  (150,⟨false,1,8,[.nilFunc]⟩),
  (152,⟨false,1,8,[.nilFunc]⟩),
  (153,⟨false,1,8,[.nilFunc]⟩),
  (154,⟨false,1,8,[.nilFunc]⟩),
  (155,⟨false,1,8,[.nilFunc]⟩),
  (156,⟨false,1,8,[.nilFunc]⟩),
  (157,⟨false,1,8,[.nilFunc]⟩),
  (158,⟨false,1,8,[.nilFunc]⟩),
  (161,⟨false,1,8,[.nilFunc]⟩),
  (165,⟨false,1,8,[.nilFunc]⟩),
  (167,⟨false,1,8,[.nilFunc]⟩),
  (168,⟨false,1,8,[.nilFunc]⟩),
  (169,⟨false,1,8,[.nilFunc]⟩),
  (170,⟨false,1,8,[.int .i64 0]⟩),
  (173,⟨false,1,8,[.nilFunc]⟩),
  (174,⟨false,1,8,[.nilFunc]⟩),
  (175,⟨false,1,8,[.nilFunc]⟩),
  (176,⟨false,1,8,[.nilFunc]⟩),
  (177,⟨false,1,8,[.nilFunc]⟩),
  (178,⟨false,1,4,[.int .u32 0]⟩),
  (180,⟨false,1,8,[.int .u64 0]⟩),
  (181,⟨false,1,8,[.nilFunc]⟩),
  (182,⟨false,1,8,[.nilFunc]⟩),
  (189,⟨false,1,8,[.nilFunc]⟩),
  (191,⟨false,1,8,[.nilFunc]⟩),
  (192,⟨false,1,8,[.nilFunc]⟩),
  (194,⟨false,1,8,[.nilFunc]⟩),
  (195,⟨false,1,8,[.nilFunc]⟩),
  (196,⟨false,1,8,[.nilFunc]⟩),
  (197,⟨false,1,8,[.int .u64 0]⟩),
  (198,⟨false,1,8,[.nilFunc]⟩),
  (203,⟨false,1,8,[.nilFunc]⟩),
  (206,⟨false,1,8,[.nilFunc]⟩),
  (207,⟨false,1,8,[.nilFunc]⟩),
  (208,⟨false,1,8,[.nilFunc]⟩),
  (209,⟨false,1,8,[.nilFunc]⟩),
  (210,⟨false,1,8,[.pointer none]⟩),
  (217,⟨true,4,40,[.pointer none,.pointer none,.pointer none,.string ⟨#[]⟩]⟩),
  (218,⟨true,4,40,[.pointer none,.pointer none,.pointer none,.string ⟨#[]⟩]⟩),
  (223,⟨false,1,1,[.int .u8 0]⟩),
  (224,⟨false,1,1,[.int .u8 0]⟩),
  (225,⟨false,1,8,[.nilFunc]⟩),
  (226,⟨false,1,8,[.pointer none]⟩),
  (227,⟨false,1,4,[.int .i32 0]⟩),
  (228,⟨false,1,4,[.int .i32 0]⟩),
  (229,⟨true,11,48,[.int .u64 0,.int .u64 0,.int .u32 0,.int .u8 0,.int .u8 0,.int .u8 0,.int .u8 0,.nilFunc,.pointer none,.int .i32 0,.int .i32 0]⟩),
  (230,⟨true,11,48,[.int .u64 0,.int .u64 0,.int .u32 0,.int .u8 0,.int .u8 0,.int .u8 0,.int .u8 0,.nilFunc,.pointer none,.int .i32 0,.int .i32 0]⟩)]
set_option maxRecDepth 8000 in
theorem yA5:OY (fun t i=>∃ inf z,Tryz.prog.info? t=some inf∧inf.size=i.size∧inf.bytes=i.bytes∧inf.zero=some z∧z.cells.toList=i.zero∧i.zero.length=i.size∧DX Tryz.prog t=some i.agg) yQ3:=
  ⟨tq (.nilFunc),tq (.int .i64 0),tq (.int .i64 0),tq (.bool false),tq (.int .u8 0),tq (.int .u8 0),tq (.agg #[.int .i64 0,.int .i64 0,.bool false,.int .u8 0]),tq (.agg #[.int .i64 0,.int .i64 0,.bool false,.int .u8 0]),tq (.string ⟨#[]⟩),tq (.string ⟨#[]⟩),tq (.string ⟨#[]⟩),tq (.int .u64 0),tq (.agg #[.string ⟨#[]⟩,.int .u64 0]),tq (.agg #[.string ⟨#[]⟩,.int .u64 0]),tq (.pointer none),tq (.pointer none),tq (.pointer none),tq (.agg #[.pointer none]),tq (.agg #[.pointer none]),tq (.int .i32 0),tq (.slice none 0 0),tq (.slice none 0 0),tq (.slice none 0 0),tq (.slice none 0 0),tq (.agg #[.slice none 0 0,.slice none 0 0,.slice none 0 0,.slice none 0 0]),tq (.agg #[.slice none 0 0,.slice none 0 0,.slice none 0 0,.slice none 0 0]),tq (.agg #[.int .i64 0,.int .i64 0,.int .i64 0,.int .i64 0]),tq (.agg #[.int .i64 0,.int .i64 0,.int .i64 0,.int .i64 0]),tq (.slice none 0 0),tq (.nilFunc),tq (.nilFunc),tq (.nilFunc),tq (.nilFunc),tq (.pointer none),tq (.int .i64 0),tq (.nilFunc),tq (.slice none 0 0),tq (.slice none 0 0),tq (.slice none 0 0),tq (.nilFunc),tq (.nilFunc),tq (.nilFunc),tq (.agg #[.int .i64 0,.int .i64 0,.int .i64 0,.int .i64 0,.slice none 0 0]),tq (.agg #[.int .i64 0,.int .i64 0,.int .i64 0,.int .i64 0,.slice none 0 0]),tq (.agg #[.int .i64 0,.int .i64 0,.int .i64 0,.int .i64 0]),tq (.agg #[.int .i64 0,.int .i64 0,.int .i64 0,.int .i64 0]),tq (.agg #[.bool false,.int .i64 0,.int .i64 0,.int .i64 0,.int .i64 0,.slice none 0 0,.int .i64 0,.int .i64 0,.int .i64 0,.int .i64 0]),tq (.agg #[.bool false,.int .i64 0,.int .i64 0,.int .i64 0,.int .i64 0,.slice none 0 0,.int .i64 0,.int .i64 0,.int .i64 0,.int .i64 0]),tq (.nilFunc),tq (.nilFunc),tq (.nilFunc),tq (.nilFunc),tq (.nilFunc),tq (.nilFunc),tq (.nilFunc),tq (.agg #[.int .i64 0,.int .i64 0,.int .i64 0]),tq (.agg #[.int .i64 0,.int .i64 0,.int .i64 0]),tq (.nilFunc),tq (.agg #[.slice none 0 0,.slice none 0 0,.int .i64 0,.slice none 0 0]),tq (.agg #[.slice none 0 0,.slice none 0 0,.int .i64 0,.slice none 0 0]),tq (.slice none 0 0),tq (.nilFunc),tq (.nilFunc),tq (.nilFunc),tq (.nilFunc),tq (.slice none 0 0),tq (.nilFunc),tq (.nilFunc),tq (.nilFunc),tq (.pointer none),tq (.nilFunc),tq (.nilFunc),tq (.agg #[.int .i64 0,.int .i64 0,.bool false]),tq (.agg #[.int .i64 0,.int .i64 0,.bool false]),tq (.nilFunc),tq (.slice none 0 0),tq (.agg #[.slice none 0 0,.slice none 0 0,.pointer none,.slice none 0 0,.slice none 0 0,.slice none 0 0]),tq (.agg #[.slice none 0 0,.slice none 0 0,.pointer none,.slice none 0 0,.slice none 0 0,.slice none 0 0]),tq (.agg #[.int .i64 0,.int .i64 0,.int .i64 0,.int .i64 0,.pointer none,.int .i64 0]),tq (.agg #[.int .i64 0,.int .i64 0,.int .i64 0,.int .i64 0,.pointer none,.int .i64 0]),tq (.nilFunc),tq (.nilFunc),tq (.nilFunc),tq (.nilFunc),tq (.nilFunc),tq (.nilFunc),tq (.nilFunc),tq (.nilFunc),tq (.agg #[.string ⟨#[]⟩,.int .i64 0]),tq (.agg #[.string ⟨#[]⟩,.int .i64 0]),tq (.nilFunc),tq (.slice none 0 0),tq (.agg #[.int .i64 0,.int .i64 0,.int .i64 0,.int .i64 0,.slice none 0 0,.slice none 0 0,.slice none 0 0,.slice none 0 0]),tq (.agg #[.int .i64 0,.int .i64 0,.int .i64 0,.int .i64 0,.slice none 0 0,.slice none 0 0,.slice none 0 0,.slice none 0 0]),tq (.agg #[.int .i64 0,.int .i64 0]),tq (.agg #[.int .i64 0,.int .i64 0]),tq (.slice none 0 0),tq (.agg #[.slice none 0 0,.int .i64 0,.slice none 0 0]),tq (.agg #[.slice none 0 0,.int .i64 0,.slice none 0 0]),tq (.slice none 0 0),tq (.agg #[.slice none 0 0,.slice none 0 0]),tq (.agg #[.slice none 0 0,.slice none 0 0]),tq (.nilFunc),tq (.nilFunc),tq (.nilFunc),tq (.nilFunc),tq (.nilFunc),tq (.nilFunc),tq (.nilFunc),tq (.nilFunc),tq (.nilFunc),tq (.nilFunc),tq (.nilFunc),tq (.nilFunc),tq (.nilFunc),tq (.nilFunc),tq (.nilFunc),tq (.nilFunc),tq (.nilFunc),tq (.nilFunc),tq (.nilFunc),tq (.nilFunc),tq (.nilFunc),tq (.nilFunc),tq (.nilFunc),tq (.int .u64 0),tq (.nilFunc),tq (.nilFunc),tq (.nilFunc),tq (.nilFunc),tq (.nilFunc),tq (.nilFunc),tq (.nilFunc),tq (.nilFunc),tq (.nilFunc),tq (.nilFunc),tq (.nilFunc),tq (.nilFunc),tq (.nilFunc),tq (.nilFunc),tq (.nilFunc),tq (.nilFunc),tq (.nilFunc),tq (.nilFunc),tq (.nilFunc),tq (.nilFunc),tq (.int .i64 0),tq (.nilFunc),tq (.nilFunc),tq (.nilFunc),tq (.nilFunc),tq (.nilFunc),tq (.int .u32 0),tq (.int .u64 0),tq (.nilFunc),tq (.nilFunc),tq (.nilFunc),tq (.nilFunc),tq (.nilFunc),tq (.nilFunc),tq (.nilFunc),tq (.nilFunc),tq (.int .u64 0),tq (.nilFunc),tq (.nilFunc),tq (.nilFunc),tq (.nilFunc),tq (.nilFunc),tq (.nilFunc),tq (.pointer none),tq (.agg #[.pointer none,.pointer none,.pointer none,.string ⟨#[]⟩]),tq (.agg #[.pointer none,.pointer none,.pointer none,.string ⟨#[]⟩]),tq (.int .u8 0),tq (.int .u8 0),tq (.nilFunc),tq (.pointer none),tq (.int .i32 0),tq (.int .i32 0),tq (.agg #[.int .u64 0,.int .u64 0,.int .u32 0,.int .u8 0,.int .u8 0,.int .u8 0,.int .u8 0,.nilFunc,.pointer none,.int .i32 0,.int .i32 0]),tq (.agg #[.int .u64 0,.int .u64 0,.int .u32 0,.int .u8 0,.int .u8 0,.int .u8 0,.int .u8 0,.nilFunc,.pointer none,.int .i32 0,.int .i32 0]),
   trivial⟩
def zZ3:List (Nat × Nat):=[(22,96),(23,79),(24,3),(25,61),(30,51),(39,24),(40,4),(41,49),(65,64),(70,47),(81,85),(98,108),(103,102),(106,105)]
theorem zG3:OY (fun t e=>Tryz.prog.underlying t=some (.slice e)) zZ3:=⟨kq,kq,kq,kq,kq,kq,kq,kq,kq,kq,kq,kq,kq,kq,trivial⟩
def yL7:List (Nat × (Nat × Nat)):=[(219,(0,16))]
theorem zW9:OY (fun t p=>Tryz.prog.underlying t=some (.array p.1 p.2)) yL7:=⟨kq,trivial⟩
def SY:List (Nat × List (Nat × Nat)):=[(7,[(0,1),(1,1),(2,1),(3,1)]),(8,[(0,1),(1,1),(2,1),(3,1)]),(13,[(0,1),(1,1)]),(14,[(0,1),(1,1)]),(18,[(0,1)]),(19,[(0,1)]),(26,[(0,1),(1,1),(2,1),(3,1)]),(27,[(0,1),(1,1),(2,1),(3,1)]),(28,[(0,1),(1,1),(2,1),(3,1)]),(29,[(0,1),(1,1),(2,1),(3,1)]),(46,[(0,1),(1,1),(2,1),(3,1),(4,1)]),(47,[(0,1),(1,1),(2,1),(3,1),(4,1)]),(48,[(0,1),(1,1),(2,1),(3,1)]),(49,[(0,1),(1,1),(2,1),(3,1)]),(50,[(0,1),(1,5),(6,4)]),(51,[(0,1),(1,5),(6,4)]),(60,[(0,1),(1,1),(2,1)]),(61,[(0,1),(1,1),(2,1)]),(63,[(0,1),(1,1),(2,1),(3,1)]),(64,[(0,1),(1,1),(2,1),(3,1)]),(78,[(0,1),(1,1),(2,1)]),(79,[(0,1),(1,1),(2,1)]),(82,[(0,1),(1,1),(2,1),(3,1),(4,1),(5,1)]),(83,[(0,1),(1,1),(2,1),(3,1),(4,1),(5,1)]),(84,[(0,4),(4,1),(5,1)]),(85,[(0,4),(4,1),(5,1)]),(95,[(0,1),(1,1)]),(96,[(0,1),(1,1)]),(99,[(0,4),(4,1),(5,1),(6,1),(7,1)]),(100,[(0,4),(4,1),(5,1),(6,1),(7,1)]),(101,[(0,1),(1,1)]),(102,[(0,1),(1,1)]),(104,[(0,1),(1,1),(2,1)]),(105,[(0,1),(1,1),(2,1)]),(107,[(0,1),(1,1)]),(108,[(0,1),(1,1)]),(217,[(0,1),(1,1),(2,1),(3,1)]),(218,[(0,1),(1,1),(2,1),(3,1)]),(220,[(0,0)]),(221,[(0,0)]),(229,[(0,1),(1,1),(2,1),(3,1),(4,1),(5,1),(6,1),(7,1),(8,1),(9,1),(10,1)]),(230,[(0,1),(1,1),(2,1),(3,1),(4,1),(5,1),(6,1),(7,1),(8,1),(9,1),(10,1)])]
theorem PW:OY (fun t l=>IL Tryz.prog t=some l) SY:=⟨kq,kq,kq,kq,kq,kq,kq,kq,kq,kq,kq,kq,kq,kq,kq,kq,kq,kq,kq,kq,kq,kq,kq,kq,kq,kq,kq,kq,kq,kq,kq,kq,kq,kq,kq,kq,kq,kq,kq,kq,kq,kq,trivial⟩
def zF8:List ((Nat × Nat) × Nat):=[((7,0),0),((7,1),1),((7,2),2),((7,3),3),((8,0),0),((8,1),1),((8,2),2),((8,3),3),((13,0),0),((13,1),1),((14,0),0),((14,1),1),((18,0),0),((19,0),0),((26,0),0),((26,1),1),((26,2),2),((26,3),3),((27,0),0),((27,1),1),((27,2),2),((27,3),3),((28,0),0),((28,1),1),((28,2),2),((28,3),3),((29,0),0),((29,1),1),((29,2),2),((29,3),3),((46,0),0),((46,1),1),((46,2),2),((46,3),3),((46,4),4),((47,0),0),((47,1),1),((47,2),2),((47,3),3),((47,4),4),((48,0),0),((48,1),1),((48,2),2),((48,3),3),((49,0),0),((49,1),1),((49,2),2),((49,3),3),((50,0),0),((50,1),1),((50,2),6),((51,0),0),((51,1),1),((51,2),6),((60,0),0),((60,1),1),((60,2),2),((61,0),0),((61,1),1),((61,2),2),((63,0),0),((63,1),1),((63,2),2),((63,3),3),((64,0),0),((64,1),1),((64,2),2),((64,3),3),((78,0),0),((78,1),1),((78,2),2),((79,0),0),((79,1),1),((79,2),2),((82,0),0),((82,1),1),((82,2),2),((82,3),3),((82,4),4),((82,5),5),((83,0),0),((83,1),1),((83,2),2),((83,3),3),((83,4),4),((83,5),5),((84,0),0),((84,1),4),((84,2),5),((85,0),0),((85,1),4),((85,2),5),((95,0),0),((95,1),1),((96,0),0),((96,1),1),((99,0),0),((99,1),4),((99,2),5),((99,3),6),((99,4),7),((100,0),0),((100,1),4),((100,2),5),((100,3),6),((100,4),7),((101,0),0),((101,1),1),((102,0),0),((102,1),1),((104,0),0),((104,1),1),((104,2),2),((105,0),0),((105,1),1),((105,2),2),((107,0),0),((107,1),1),((108,0),0),((108,1),1),((217,0),0),((217,1),1),((217,2),2),((217,3),3),((218,0),0),((218,1),1),((218,2),2),((218,3),3),((229,0),0),((229,1),1),((229,2),2),((229,3),3),((229,4),4),((229,5),5),((229,6),6),((229,7),7),((229,8),8),((229,9),9),((229,10),10),((230,0),0),((230,1),1),((230,2),2),((230,3),3),((230,4),4),((230,5),5),((230,6),6),((230,7),7),((230,8),8),((230,9),9),((230,10),10)]
theorem XB:OY (fun (tf:Nat × Nat) o=>∃ fs fd inf,Tryz.prog.underlying tf.1=some (.struct fs)∧fs[tf.2]? = some fd∧fd.offset=o∧Tryz.prog.info? fd.type=some inf∧inf.size≠0) zF8:=
  ⟨fq,fq,fq,fq,fq,fq,fq,fq,fq,fq,fq,fq,fq,fq,fq,fq,fq,fq,fq,fq,fq,fq,fq,fq,fq,fq,fq,fq,fq,fq,fq,fq,fq,fq,fq,fq,fq,fq,fq,fq,fq,fq,fq,fq,fq,fq,fq,fq,fq,rD (n:=4) (by kernel_rfl),rD (n:=3) (by kernel_rfl),fq,rD (n:=4) (by kernel_rfl),rD (n:=3) (by kernel_rfl),fq,fq,fq,fq,fq,fq,fq,fq,fq,fq,fq,fq,fq,fq,fq,fq,fq,fq,fq,fq,fq,fq,fq,fq,fq,fq,fq,fq,fq,fq,fq,fq,rD (n:=3) (by kernel_rfl),fq,fq,rD (n:=3) (by kernel_rfl),fq,fq,fq,fq,fq,fq,rD (n:=3) (by kernel_rfl),fq,fq,fq,fq,rD (n:=3) (by kernel_rfl),fq,fq,fq,fq,fq,fq,fq,fq,fq,fq,fq,fq,fq,fq,fq,fq,fq,fq,fq,fq,fq,fq,fq,fq,fq,fq,fq,fq,fq,fq,fq,fq,fq,fq,fq,fq,fq,fq,fq,fq,fq,fq,fq,fq,fq,fq,fq,fq,
   trivial⟩
theorem cK:Tryz.prog.follows .mixedOrders=true:=by kernel_rfl
def T:oQ Tryz.prog where
  ti:=CQ yQ3
  tiOk:=fun _ _ h=>B9 yA5 h
  elem:=CQ zZ3
  elemOk:=fun _ _ h=>B9 zG3 h
  field:=fun t f=>IX zF8 t f
  fieldOk:=fun _ _ _ h=>GK XB h
  arr:=CQ yL7
  arrOk:=fun _ _ _ h=>B9 zW9 h
  places:=CQ SY
  placesOk:=fun _ _ h=>B9 PW h
abbrev ints (l:List Int):List (List AV):=l.map fun n=>[AV.i n]
theorem dR (l:List Int):∀ e,e∈ints l→e.length=1:=by intro e he;obtain ⟨n,_,rfl⟩:=bA.1 he;rfl
theorem mE {l:List Int}{k:Nat}(h:k<l.length):(ints l)[k]? = some [AV.i l[k]]:=by simp [h]
abbrev BX:=Int × Int × Int
abbrev LT:=Int × Int × Bool
abbrev KD:=ByteArray × Int
abbrev cW (l:List BX):List (List AV):=l.map fun b=>[AV.i b.1,AV.i b.2.1,AV.i b.2.2]
abbrev iI (l:List LT):List (List AV):=l.map fun b=>[AV.i b.1,AV.i b.2.1,AV.b b.2.2]
abbrev gE (l:List KD):List (List AV):=l.map fun b=>[AV.v (.string b.1),AV.i b.2]
theorem iS (l:List BX):∀ e,e∈cW l→e.length=3:=by intro e he;obtain ⟨n,_,rfl⟩:=bA.1 he;rfl
theorem B8 (l:List LT):∀ e,e∈iI l→e.length=3:=by intro e he;obtain ⟨n,_,rfl⟩:=bA.1 he;rfl
theorem xI (l:List KD):∀ e,e∈gE l→e.length=2:=by intro e he;obtain ⟨n,_,rfl⟩:=bA.1 he;rfl
theorem xP {l:List BX}{k:Nat}(h:k<l.length):(cW l)[k]? = some [AV.i l[k].1,AV.i l[k].2.1,AV.i l[k].2.2]:=by simp [h]
theorem M4 {l:List LT}{k:Nat}(h:k<l.length):(iI l)[k]? = some [AV.i l[k].1,AV.i l[k].2.1,AV.b l[k].2.2]:=by simp [h]
theorem F0 {l:List KD}{k:Nat}(h:k<l.length):(gE l)[k]? = some [AV.v (.string l[k].1),AV.i l[k].2]:=by simp [h]
abbrev iH (m st er sl:Int):AV:=.agg [.i m,.i st,.i er,.i sl]
abbrev oW (k a b n:Int) (ids:List Int):AV:=.agg [.i k,.i a,.i b,.i n,.rowE (ints ids) 1]
theorem nM {a b:Bool}(h:a=b):AV.b a=AV.b b:=by rw [h]
def jN (n f t:Int):Bool:=decide (f≤n)&&decide (n≤t)
def yR:List Int→Int→Int→Int
  | [],_,_=>-1
  | x::r,v,k=>if v=x then k else yR r v (k+1)
theorem NE:∀ (l:List Int) (v k:Int),0≤k→(0≤yR l v k↔v∈l)
  | [],v,k,_=>by simp [yR]
  | x::r,v,k,hk=>by
    simp only [yR];split
    · rename_i e;subst e;simp [hk]
    · rename_i e;rw [NE r v (k+1) (by omega)]
      simp [e]
theorem WP {l:List Int}{v:Int}{k:Nat}(h:k<l.length):yR (l.drop k) v k=if v=l[k] then (k:Int) else yR (l.drop (k+1)) v ((k+1:Nat):Int):=by
  rw [aY h];simp [yR]
theorem CF:∀ (n:Nat) (l:List Int),l.length=n→(∀ i:Nat,i<n→(i:Int)∈l)→∀ x,x∈l→0≤x∧x<n
  | 0,l,hl,_,x,hx=>by
    have:l=[]:=cF hl;subst this;simp at hx
  | n+1,l,hl,hm,x,hx=>by
    have h1:=hm n (by omega)
    have h2:(l.erase (n:Int)).length=n:=by rw [lS h1];omega
    have h3:=CF n (l.erase (n:Int)) h2 (fun i hi=>(mJ (by omega)).2 (hm i (by omega)))
    by_cases e:x=n
    · omega
    · have:=h3 x ((mJ e).2 hx);omega
structure zL7 (ks:List KD) (ls:List LT) (ps:List Int) (bs:List BX):Prop where
  n1:1≤ps.length
  n8:ps.length≤8
  len:ps.length=bs.length
  k10:ks.length≤10
  l10:ls.length≤10
  k:∀ (i:Nat) (h:i<ks.length),0≤ks[i].2∧ks[i].2≤1048576
  l:∀ (i:Nat) (h:i<ls.length),0≤ls[i].1∧ls[i].1<ks.length
  p:∀ (i:Nat) (h:i<ps.length),0≤ps[i]∧ps[i]<ps.length
  b:∀ (i:Nat) (h:i<bs.length),-1≤bs[i].1∧bs[i].1<ls.length∧0≤bs[i].2.1∧bs[i].2.1≤20000∧(bs[i].1 = -1→bs[i].2.1=0)∧0≤bs[i].2.2∧bs[i].2.2≤1073741824
def mH (m st er sl:Int):Prop:=0≤m∧m≤1048576∧0≤st∧st≤1048576∧0≤er∧er≤1048576∧0≤sl∧sl≤1048576
def oA (ks:List KD) (ls:List LT) (lot:Int):Int:=if lot<0 then 0 else (ks.getD (ls.getD lot.toNat (0,0,false)).1.toNat (⟨#[]⟩,0)).2
theorem SI {ks:List KD}{ls:List LT}{ps:List Int}{bs:List BX}(f:zL7 ks ls ps bs){lot:Int}(h:lot<ls.length):0≤oA ks ls lot∧oA ks ls lot≤1048576:=by
  unfold oA;split
  · omega
  · have hl:lot.toNat<ls.length:=by omega
    have h1:=f.l lot.toNat hl;have hk:ls[lot.toNat].1.toNat<ks.length:=by omega
    have h2:=f.k _ hk;simp only [List.getD,aA hl,lO,aA hk];exact h2
def zM0 (st id k:Int) (ids:List Int):Int:=if k=0 then (if (ids.length:Int)-(if id∈ids then 1 else 0) > st then 0 else if id∈ids then 0 else 1) else 0
def KB (st er sl id ct w k n:Int) (ids:List Int):Bool:=
  if k=0 then decide ((ids.length:Int)-(if id∈ids then 1 else 0)≤st)
  else if k=1 then jN w (n-er) (n+er)
  else if k=2 then decide (n-sl≤ct)
  else if k=3 then decide (n=ct)
  else if k=5 then decide (n=id)
  else true
def EP (sl ct k n done:Int):Bool:=if k=2 then jN done 0 ct&&jN done (n-sl) (n+sl) else if k=4 then decide (done=0)||decide (done=1) else decide (done=0)
def Z3 (l:List Int) (n:Int) (i:Nat):Prop:=0≤l.getD i 0∧l.getD i 0≤n-1∧(0<i→l.getD (i-1) 0<l.getD i 0)
open Classical in
noncomputable def JZ (l:List Int) (n:Int):Bool:=decide (∀ i,i<l.length→Z3 l n i)
end Go.Proofs.YtmmmeebiobjnbaaGreat
namespace Go.Proofs.YtmmmeebiobjnbaaGreat
open Go Go.Ab
attribute [local irreducible] VC AW cD aT
set_option maxHeartbeats 4000000
theorem pD (n f t:Int):aT Tryz.prog 40 [.i n,.i f,.i t] [] (.b (jN n f t)) []:=by
  refine bU T Tryz.func40 rfl rfl rfl rfl ?_
  (repeat' (first|refine wS ?_|refine wR ?_|(refine rg 0 (aV ?_))|(refine rg 1 (dI rfl (vV (iC rfl rfl) (mV ?_)));refine bQ rfl rfl ?_ ?_<;>(intro hb;rw [hb];(try simp only [nm] at hb);try (exfalso;omega));(all_goals first|(refine gT (mW rfl (gT (mW rfl (gT (vV (iB rfl rfl) ?_))))))|(iterate 3 refine gF ?_));(all_goals (refine pW rfl (aV ?_))))|refine nZ ?_));all_goals
    refine dJ (.inl rfl) rfl (nM ?_);simp [jN];try omega
theorem yK (l:List Int) (v:Int) (hl:l.length≤9223372036854775807):aT Tryz.prog 59 [.rowE (ints l) 1,.i v] [] (.i (yR l v 0)) []:=by
  have hlen:(ints l).length=l.length:=by simp
  refine bU T Tryz.func59 rfl rfl rfl rfl ?_
  (repeat' (first|refine wS ?_|refine wB ?_|(refine rg 0 (aV ?_))|(refine rg 1 (mW rfl (qW T rfl (mV ?_))))|refine nZ ?_));refine dA (X:={k:Nat // k≤l.length∧yR l v 0=yR (l.drop k) v k}) (fun k=>[(0,.rowE (ints l) 1),(1,.i v),(7,.i (ints l).length),(8,.i k.1)]) (fun _=>[]) (fun k=>l.length-k.1) ⟨0,by simp,rfl⟩ (gH []) ?_
  rintro ⟨k,hk,hf⟩;dsimp only;by_cases hlt:k<l.length
  · have hd:=WP (v:=v) hlt
    repeat' (first|refine wS ?_|refine wB ?_|refine wK ?_|refine wR ?_|(refine wC rfl ?_ ?_<;>(intro hb;(try simp only [nm] at hb);try (exfalso;omega)))|(refine rg 2 (vV (aL rfl rfl) ?_))|(refine rg 3 (mW rfl (aV ?_)))|(refine rg 4 (dI rfl (mW rfl (vV (ix T rfl (by omega) (dR l) (mE (k:=k) (by omega))) (lW T rfl (vV (eD rfl rfl) ?_))))))|(refine rg 5 (mW rfl (aV ?_)))|(refine rg 6 (vV (cE rfl rfl (by omega) (by omega)) (mV ?_)))|refine nZ ?_)
    · refine dJ (.inl rfl) rfl ?_;rw [hf,hd,if_pos hb];rfl
    · refine ⟨⟨k+1,by omega,?_⟩,by dsimp only;omega,gH []⟩
      rw [hf,hd,if_neg hb]
  · (repeat' (first|refine wS ?_|refine wR ?_|refine wE ?_|(refine wC rfl (fun hb=>?_) (fun hb=>?_) <;> (((try simp only [nm] at hb);try (exfalso;omega))))|(refine rg 2 (vV (aL rfl rfl) ?_))|(refine rg 7 (aV ?_))|(refine nZ ?_)));refine dJ (.inl rfl) rfl ?_
    rw [hf,dC (by omega)];rfl
theorem zF (l:List Int) (v:Int) (hl:l.length≤9223372036854775807):aT Tryz.prog 42 [.rowE (ints l) 1,.i v] [] (.b (decide (v∈l))) []:=by
  refine bU T Tryz.func42 rfl rfl rfl rfl ?_
  (repeat' (first|refine wS ?_|refine wR ?_|(refine rg 0 (aV ?_))|(refine rg 1 (dI rfl (vV (kC (yK l v hl)) (vV (iC rfl rfl) (aV ?_)))))|refine nZ ?_));refine dJ (.inl rfl) rfl (nM ?_)
  rw [HV];simp only [decide_eq_true_eq];exact NE l v 0 (by omega)
theorem YC {ks:List KD}{ls:List LT}{ps:List Int}{bs:List BX}(f:zL7 ks ls ps bs){lot:Int}(h:lot<ls.length):aT Tryz.prog 43 [.rowE (gE ks) 2,.rowE (iI ls) 3,.i lot] [] (.i (oA ks ls lot)) []:=by
  by_cases h0:lot<0
  · refine bU T Tryz.func43 rfl rfl rfl rfl ?_
    (repeat' (first|refine wS ?_|refine wR ?_|(refine wC rfl ?_ ?_<;>(intro hb;(try simp only [nm] at hb);try (exfalso;omega)))|(refine rg 0 (aV ?_))|(refine rg 1 (mW rfl (vV (aL rfl rfl) ?_)))|(refine rg 2 (aV ?_))|refine nZ ?_));refine dJ (.inl rfl) rfl ?_
    unfold oA;rw [if_pos h0];rfl
  · have hl:lot.toNat<ls.length:=by omega
    have h1:=f.l lot.toNat hl;have hk:ls[lot.toNat].1.toNat<ks.length:=by omega
    have hkl:(gE ks).length=ks.length:=by simp
    have hll:(iI ls).length=ls.length:=by simp
    have e:oA ks ls lot=ks[ls[lot.toNat].1.toNat].2:=by
      unfold oA;rw [if_neg h0];simp only [List.getD,aA hl,lO,aA hk]
    refine bU T Tryz.func43 rfl rfl rfl rfl ?_
    (repeat' (first|refine wS ?_|refine wK ?_|refine wR ?_|(refine wC rfl ?_ ?_<;>(intro hb;(try simp only [nm] at hb);try (exfalso;omega)))|(refine rg 0 (aV ?_))|(refine rg 1 (mW rfl (vV (aL rfl rfl) ?_)))|(refine rg 3 (dI rfl (mW rfl (vV (ix T rfl (by omega) (B8 ls) (M4 hl)) (gI T rfl (vV (ix T rfl (by omega) (xI ks) (F0 hk)) (gI T rfl (aV ?_))))))))|refine nZ ?_));refine dJ (.inl rfl) rfl ?_
    rw [e];rfl
theorem yL1 (m st er sl lot ct ta k a b n:Int) (ids:List Int) (done:Int) (h1:0≤n∧n≤1099511627776) (h2:0≤sl∧sl≤1048576) :
    aT Tryz.prog 44 [iH m st er sl,.agg [.i lot,.i ct,.i ta],oW k a b n ids,.i done] [] (.b (EP sl ct k n done)) []:=by
  refine bU T Tryz.func44 rfl rfl rfl rfl ?_
  (repeat' (first|refine wS ?_|refine wB ?_|refine wK ?_|refine wR ?_|(refine wC rfl ?_ ?_<;>(intro hb;(try simp only [nm] at hb);try (exfalso;omega)))|(refine rg 0 (cC (cO rfl rfl) rfl (cC (cO rfl rfl) rfl (cC (cO rfl rfl) rfl (aV ?_)))))|(refine rg 1 (JF T ?_))|(refine rg 2 (vV (eD rfl rfl) (aV ?_)))|(refine rg 3 (mW rfl (gI T rfl (vV (by exact fQ rfl rfl (pD _ _ _) rfl rfl rfl) ?_)));refine mV ?_;refine bQ rfl rfl ?_ ?_<;>(intro hb;rw [hb];(try simp only [nm] at hb);try (exfalso;omega));(all_goals first|(refine gT (mW rfl (gT (fW T rfl (gT (lW T rfl (gT (fW T rfl (gT (lV T ?_)))))))));refine gT (vV (cT rfl rfl (by omega) (by omega)) (gT (fW T rfl (gT (lW T rfl (gT (fW T rfl (gT (lV T ?_)))))))));refine gT (vV (cE rfl rfl (by omega) (by omega)) (gT (vV (by exact fQ rfl rfl (pD _ _ _) rfl rfl rfl) ?_))))|(iterate 12 refine gF ?_));(all_goals (refine pW rfl (aV ?_))))|(refine rg 4 (vV (eD rfl rfl) (aV ?_)))|(refine rg 5 (mW rfl (vV (eD rfl rfl) (mV ?_)));refine bQ rfl rfl ?_ ?_<;>(intro hb;rw [hb];(try simp only [nm] at hb);try (exfalso;omega));(all_goals first|(refine gT (mW rfl (gT (vV (eD rfl rfl) ?_))))|(iterate 2 refine gF ?_));(all_goals (refine pW rfl (aV ?_))))|(refine rg 6 (mW rfl (vV (eD rfl rfl) (aV ?_))))|refine nZ ?_));all_goals
    refine dJ (.inl rfl) rfl (nM ?_);simp [EP, *]
theorem C1 (l:List Int):(ints l).flatten.all AV.one=true:=by
  rw [bK];intro x hx;obtain ⟨e,he,hx⟩:=zX4.1 hx;obtain ⟨p,_,rfl⟩:=bA.1 he;simp at hx;subst hx;rfl
theorem XK (l:List BX):(cW l).flatten.all AV.one=true:=by
  rw [bK];intro x hx;obtain ⟨e,he,hx⟩:=zX4.1 hx;obtain ⟨p,_,rfl⟩:=bA.1 he;simp at hx;rcases hx with rfl | rfl | rfl <;> rfl
theorem zM9 {a c:Int}{e e':Bool}(h1:a=c) (h3:e=e'):AV.tup [.i a,.b e]=AV.tup [.i c,.b e']:=by rw [h1,h3]
theorem OJ {ks:List KD}{ls:List LT}{ps:List Int}{bs:List BX}(f:zL7 ks ls ps bs){m st er sl k a b n:Int}{ids:List Int}{id lot ct ta:Int}(hs:mH m st er sl) (ha:0≤a) (hn:0≤n∧n≤1099511627776) (hl:ids.length≤9223372036854775807)
    (hid:ps[a.toNat]? = some id) (hbx:bs[id.toNat]? = some (lot,ct,ta)) :
    aT Tryz.prog 19 [iH m st er sl,.rowE (gE ks) 2,.rowE (iI ls) 3,.rowE (ints ps) 1,.rowE (cW bs) 3,oW k a b n ids] [] (.tup [.i (zM0 st id k ids),.b (KB st er sl id ct (ta+ct*oA ks ls lot) k n ids)]) []:=by
  unfold mH at hs;have hc1:(ints ps)[a.toNat]? = some [AV.i id]:=by simp [hid]
  have hc2:(cW bs)[id.toNat]? = some [AV.i lot,AV.i ct,AV.i ta]:=by simp [hbx]
  obtain ⟨hx1,hx2⟩:=aB.1 hid;obtain ⟨hy1,hy2⟩:=aB.1 hbx;have hp:=f.p _ hx1;rw [hx2] at hp;have hb0:=f.b _ hy1;rw [hy2] at hb0;simp only at hb0;have hu:=SI f hb0.2.1;have hcu:=YC f hb0.2.1;have b1:0≤ct*oA ks ls lot:=Int.mul_nonneg hb0.2.2.1 hu.1;have b2:ct*oA ks ls lot≤20000*1048576:=K9 (Int.mul_le_mul_of_nonneg_right hb0.2.2.2.1 hu.1) (Int.mul_le_mul_of_nonneg_left hu.2 (by omega))
  have hcc:=zF ids id hl;have hil:(ints ids).length=ids.length:=by simp
  generalize hU:oA ks ls lot=U at *;refine bU T Tryz.func19 rfl rfl rfl rfl ?_
  (repeat' (first|refine wS ?_|refine wB ?_|refine wK ?_|refine wR ?_|(refine wC rfl ?_ ?_<;>(intro hb;(try simp only [nm] at hb);try (exfalso;omega)))|(refine rg 0 (cC (cO rfl rfl) rfl (cC (cO rfl rfl) rfl (sG ?_))))|(refine rg 1 (mW rfl (gI T rfl (vV (ix T rfl (by omega) (dR ps) hc1) (lW T rfl (aV ?_))))))|(refine rg 2 (dI rfl (vV (ix T rfl (by omega) (iS bs) hc2) (lW T rfl (cC (cM T rfl) rfl (bD T rfl rfl rfl rfl rfl rfl (by decide) rfl ?_))))))|(refine rg 3 (JF T ?_))|(refine rg 4 (vV (eD rfl rfl) (aV ?_)))|(refine rg 5 (gI T rfl (qW T rfl (aV ?_))))|(refine rg 6 (gI T rfl (mW rfl (vV (kC (hcc)) ?_))))|(refine rg 7 (mW rfl (vV (cT rfl rfl (by omega) (by omega)) (aV ?_))))|(refine rg 8 (aV ?_))|(refine rg 9 (mW rfl (gI T rfl (vV (fA rfl rfl) ?_))))|(refine rg 10 (sG ?_))|(refine rg 11 (mW rfl (sG ?_)))|(refine rg 12 (vV (eD rfl rfl) (aV ?_)))|(refine bV (id:=13) 91 [[],[0],[],[2],[],[],[],[6],rM 4 4,rM 2 7,rN 10,[],[11],[],[13],rM 11 4,[],[16],[],[18],rM 16 4,rN 21,rN 22] [46,47,48,49,50,51,52,53,54,55,56,57,58,59,60,61,62,63,64,65,66,67,12] [[],[],[46,47],[46,47],rM 46 4,rM 46 5,rM 46 6,rM 46 6,rM 46 4,[46,47],[],rM 46 11,rM 46 11,rM 46 13,rM 46 13,rM 46 11,rM 46 16,rM 46 16,rM 46 18,rM 46 18,rM 46 16,[],[]] cK rfl (by decide +kernel) (dP T rfl (dO T rfl (dP T rfl (dO T rfl (dN rfl (dN rfl (dP T rfl (dO T rfl (dV rfl (kC (hcu)) ?_)))))))));refine dV rfl (yU rfl rfl (by omega) (by omega)) (dV rfl (cE rfl rfl (by omega) (by omega)) (dP T rfl (dO T rfl (dP T rfl (dO T rfl (dV rfl (cT rfl rfl (by omega) (by omega)) (dP T rfl (dO T rfl (dF T ?_)))))))));refine dO T rfl (dV rfl (cE rfl rfl (by omega) (by omega)) (dV rfl (by exact fQ rfl rfl (pD _ _ _) rfl rfl rfl) ?_));refine dV rfl (dK rfl) (dE ?_);refine aV ?_)|(refine rg 14 (vV (eD rfl rfl) (aV ?_)))|(refine bV (id:=15) 91 [[],[0],[],[2],rN 4,[],[5],rN 7,[]] [70,71,72,73,74,75,76,77,12] [[],[],[70,71],[70,71],[],rM 70 5,rM 70 5,[],rM 70 8] cK rfl (by decide +kernel) (dP T rfl (dO T rfl (dP T rfl (dO T rfl (dV rfl (cT rfl rfl (by omega) (by omega)) (dP T rfl (dO T rfl (dV rfl (iB rfl rfl) (dV rfl (dK rfl) ?_)))))))));refine dE ?_;refine aV ?_)|(refine rg 16 (vV (eD rfl rfl) (aV ?_)))|(refine bV (id:=17) 91 [[],[0],[],[2],rN 4,[]] [80,81,82,83,84,12] [[],[],[80,81],[80,81],[],rM 80 5] cK rfl (by decide +kernel) (dP T rfl (dO T rfl (dP T rfl (dO T rfl (dV rfl (eD rfl rfl) (dV rfl (dK rfl) (dE ?_)))))));refine aV ?_)|(refine rg 18 (vV (eD rfl rfl) (aV ?_)))|(refine bV (id:=19) 91 [[],[0],[],[0,1,2],[]] [87,88,89,90,12] [[],[],[87,88],[],rM 87 4] cK rfl (by decide +kernel) (dP T rfl (dO T rfl (dN rfl (dV rfl (eD rfl rfl) (dV rfl (dK rfl) (dE ?_))))));refine aV ?_)|(refine rg 20 (sG ?_))|refine nZ ?_));all_goals
    refine dJ (.inl rfl) rfl (zM9 ?_ ?_)
    all_goals (simp [zM0,KB, *];try omega)
end Go.Proofs.YtmmmeebiobjnbaaGreat
namespace Go.Proofs.YtmmmeebiobjnbaaGreat
open Go Go.Ab
attribute [local irreducible] VC AW cD aT
abbrev nH (f t:Int):AV:=.agg [.i f,.i t]
def C6 (f t:Int):Bool:=decide (max f 0<min t 20001)
def JL (f t:Int):Int:=if C6 f t then max f 0 else 0
def cutT (f t:Int):Int:=if C6 f t then min t 20001 else 0
theorem DK (f t:Int):(C6 f t=true∧JL f t=max f 0∧cutT f t=min t 20001∧max f 0<min t 20001)∨(C6 f t=false∧JL f t=0∧cutT f t=0∧min t 20001≤max f 0):=by
  by_cases h:max f 0<min t 20001
  · left;simp [C6,JL,cutT,h]
  · right;simp only [C6,JL,cutT,h];simp;omega
theorem YX {a b c d:Int}{e e':Bool}(h1:a=c) (h2:b=d) (h3:e=e'):AV.tup [nH a b,.b e]=AV.tup [nH c d,.b e']:=by rw [h1,h2,h3]
theorem II (f t:Int):aT Tryz.prog 127 [nH f t] [] (.tup [nH (JL f t) (cutT f t),.b (C6 f t)]) []:=by
  refine bU T Tryz.func127 rfl rfl rfl rfl ?_
  (repeat' (first|(first|(refine eW ?_)|(refine rJ ?_)|(refine vT ?_)|(refine sF ?_))|(first|(refine vV (by first|exact dK rfl|exact bI T rfl rfl rfl|exact aK T rfl rfl rfl rfl|exact iC rfl rfl|exact yW rfl rfl|exact J7 rfl rfl|exact eO T rfl rfl rfl rfl) ?_)|(refine bD T rfl rfl rfl rfl rfl rfl (by decide) rfl ?_)|(refine iM ?_)|(refine cC (by first|exact cM T rfl|exact cO rfl rfl) rfl ?_))|((refine tX rfl (fun hb=>?_) (fun hb=>?_)<;>(try simp only [nm] at hb)))));all_goals
    refine dJ (.inl rfl) rfl ?_;rcases DK f t with ⟨h1,h2,h3,h4⟩ | ⟨h1,h2,h3,h4⟩
    all_goals (first | (exfalso;omega) | (rw [h1,h2,h3];refine YX ?_ ?_ ?_ <;> first | rfl | omega))
def xL (f t n:Int):Bool:=decide (f≤n)&&decide (n<t)
theorem zP0 (f t n:Int):aT Tryz.prog 90 [nH f t,.i n] [] (.b (xL f t n)) []:=by
  refine bU T Tryz.func90 rfl rfl rfl rfl ?_
  (repeat' (first|(first|(refine eW ?_)|(refine rJ ?_)|(refine sF ?_))|(first|(refine vV (by first|exact bR rfl|exact dK rfl|exact bI T rfl rfl rfl|exact aK T rfl rfl rfl rfl|exact gG rfl rfl|exact gJ rfl rfl|exact aL rfl rfl|exact iB rfl rfl) ?_)|(refine iM ?_)|(refine FE rfl rfl ?_ rfl)|(refine FF rfl rfl ?_ rfl)|(refine uF rfl rfl (fun hb=>?_) (fun hb=>?_) rfl<;>(rw [hb];(try simp only [nm] at hb)))|(refine cC (cO rfl rfl) rfl ?_))));all_goals
    refine dJ (.inl rfl) rfl (nM ?_);simp [xL];try omega
theorem zS3 (a b c d:Int):aT Tryz.prog 88 [nH a b,nH c d] [] (.tup [nH (JL (max a c) (min b d)) (cutT (max a c) (min b d)),.b (C6 (max a c) (min b d))]) []:=by
  refine bU T Tryz.func88 rfl rfl rfl rfl ?_
  (repeat' (first|(first|(refine eW ?_)|(refine rJ ?_)|(refine sF ?_))|(first|(refine vV (by first|exact dK rfl|exact bI T rfl rfl rfl|exact aK T rfl rfl rfl rfl|exact kJ rfl rfl|exact yW rfl rfl|exact J7 rfl rfl|exact eO T rfl rfl rfl rfl|exact fQ rfl rfl (II _ _) rfl rfl rfl) ?_)|(refine bD T rfl rfl rfl rfl rfl rfl (by decide) rfl ?_)|(refine iM ?_)|(refine cC (by first|exact cM T rfl|exact cO rfl rfl) rfl ?_))));refine rQ
theorem zP1:aT Tryz.prog 126 [] [] (nH 0 20001) []:=by
  refine bU T Tryz.func126 rfl rfl rfl rfl ?_
  (repeat' (first|(first|(refine eW ?_)|(refine rJ ?_)|(refine sF ?_))|(first|(refine vV (by exact eO T rfl rfl rfl rfl) ?_)|(refine bD T rfl rfl rfl rfl rfl rfl (by decide) rfl ?_)|(refine iM ?_)|(refine cC (cM T rfl) rfl ?_))));refine rQ
def xM (l:List Int):Bool:=l.all fun n=>decide (0≤n)&&decide (n≤1099511627776)
theorem QP (l:List Int) (k:Nat) (h:k<l.length):xM (l.drop k)=(decide (0≤l[k])&&decide (l[k]≤1099511627776)&&xM (l.drop (k+1))):=by
  rw [aY h];rfl
theorem M1 (l:List Int) (hm:l.length≤1000):aT Tryz.prog 125 [.rowE (ints l) 1] [] (.b (xM l)) []:=by
  refine bU T Tryz.func125 rfl rfl rfl rfl ?_
  (repeat' (first|(first|(refine eW ?_)|(refine rJ ?_)|(refine xQ ?_))|(first|(refine vV (by first|exact bR rfl|exact dK rfl|exact jB T rfl rfl) ?_)|(refine iM ?_))));refine dA (X:={k:Nat // k≤(ints l).length∧xM l=xM (l.drop k)}) (fun k=>[(5,.rowE (ints l) 1),(6,.i (ints l).length),(7,.i k.1)]) (fun _=>[]) (fun k=>(ints l).length-k.1) ⟨0,by simp,rfl⟩ (gH []) ?_
  rintro ⟨k,hk,hf⟩;dsimp only;have hlen:(ints l).length=l.length:=by simp
  repeat' (first|(first|(refine eW ?_)|(refine rJ ?_)|(refine xQ ?_)|(refine vT ?_)|(refine sF ?_)|(refine UI ?_))|(first|(refine vV (by first|exact dK rfl|exact aL rfl rfl) ?_)|(refine iM ?_))|((refine tX rfl (fun hb=>?_) (fun hb=>?_)<;>(try simp only [nm] at hb))))
  · have hlt:k<l.length:=by omega
    have hs:=QP l k hlt;refine zY (N4 T rfl rfl rfl rfl rfl (by omega) (dR l) (mE hlt)) rfl ?_
    (repeat' (first|(first|(refine eW ?_)|(refine rJ ?_)|(refine vT ?_)|(refine sF ?_))|(first|(refine vV (by first|exact bR rfl|exact dK rfl|exact aK T rfl rfl rfl rfl|exact gG rfl rfl|exact gJ rfl rfl|exact cE rfl rfl (by omega) (by omega)|exact aL rfl rfl|exact fA rfl rfl) ?_)|(refine iM ?_)|(refine FE rfl rfl ?_ rfl)|(refine FF rfl rfl ?_ rfl)|(refine uF rfl rfl (fun hb=>?_) (fun hb=>?_) rfl<;>(rw [hb];(try simp only [nm] at hb))))|(first|(refine wT ?_)|(refine tX rfl (fun hb=>?_) (fun hb=>?_)<;>(try simp only [nm] at hb)))));all_goals first
      | (refine dJ (.inl rfl) rfl (nM ?_);rw [hf,hs];simp;omega)
      | (refine ⟨⟨k+1,by omega,?_⟩,by simp;omega,gH []⟩;rw [hf,hs];simp;omega)
  · refine dJ (.inl rfl) rfl (nM ?_);rw [hf,dC (by omega)];rfl
theorem zF4 {a b:Int}(h:0≤a∧a≤1099511627776∧0≤b∧b≤1099511627776):xM [a,b]=true:=by simp [xM];omega
theorem zF6 {a b:Int}(h:¬ (0≤a∧a≤1099511627776∧0≤b∧b≤1099511627776)):xM [a,b]=false:=by
  rw [← eS];simp [xM];omega
theorem zF3 {a b c d:Int}(h:0≤a∧a≤1099511627776∧0≤b∧b≤1099511627776∧0≤c∧c≤1099511627776∧0≤d∧d≤1099511627776):xM [a,b,c,d]=true:=by simp [xM];omega
theorem zF5 {a b c d:Int}(h:¬ (0≤a∧a≤1099511627776∧0≤b∧b≤1099511627776∧0≤c∧c≤1099511627776∧0≤d∧d≤1099511627776)):xM [a,b,c,d]=false:=by
  rw [← eS];simp [xM];omega
theorem zT8 {a b:Int}(h:0≤a∧a≤1099511627776∧0≤b∧b≤1099511627776):aT Tryz.prog 125 [.rowE (ints [a,b]) 1] [] (.b true) []:=zF4 h▸M1 [a,b] (by simp)
theorem zU0 {a b:Int}(h:¬ (0≤a∧a≤1099511627776∧0≤b∧b≤1099511627776)):aT Tryz.prog 125 [.rowE (ints [a,b]) 1] [] (.b false) []:=zF6 h▸M1 [a,b] (by simp)
theorem JG {a b c d:Int}(h:0≤a∧a≤1099511627776∧0≤b∧b≤1099511627776∧0≤c∧c≤1099511627776∧0≤d∧d≤1099511627776):aT Tryz.prog 125 [.rowE (ints [a,b,c,d]) 1] [] (.b true) []:=zF3 h▸M1 [a,b,c,d] (by simp)
theorem zT9 {a b c d:Int}(h:¬ (0≤a∧a≤1099511627776∧0≤b∧b≤1099511627776∧0≤c∧c≤1099511627776∧0≤d∧d≤1099511627776)):aT Tryz.prog 125 [.rowE (ints [a,b,c,d]) 1] [] (.b false) []:=zF5 h▸M1 [a,b,c,d] (by simp)
theorem VQ (f t n s:Int) (hf:0≤f∧f≤20001∧0≤t∧t≤20001) (h:0≤n∧n≤1099511627776∧0≤s∧s≤1099511627776):aT Tryz.prog 89 [nH f t,.i n,.i s] [] (.tup [nH (JL (f-n-s) (t-max (n-s) 0)) (cutT (f-n-s) (t-max (n-s) 0)),.b (C6 (f-n-s) (t-max (n-s) 0))]) []:=by
  refine bU T Tryz.func89 rfl rfl rfl rfl ?_
  (repeat' (first|(first|(refine eW ?_)|(refine rJ ?_)|(refine vT ?_)|(refine sF ?_))|(first|(refine vV (by first|exact bR rfl|exact dK rfl|exact bI T rfl rfl rfl|exact aK T rfl rfl rfl rfl|exact cT rfl rfl (by omega) (by omega)|exact eH rfl|exact kJ rfl rfl|exact yW rfl rfl|exact eO T rfl rfl rfl rfl|exact fQ rfl rfl (II _ _) rfl rfl rfl|exact fM rfl rfl (zT8 h) (by ((repeat (first|exact .nil|exact .v _|refine .cons ?_ ?_|refine .sl rfl (by simp) ?_));done)) rfl rfl) ?_)|(refine bD T rfl rfl rfl rfl rfl rfl (by decide) rfl ?_)|(refine iM ?_)|(refine cC (by first|exact cM T rfl|exact cO rfl rfl|exact bE T rfl rfl (by decide) (by decide) rfl rfl rfl) rfl ?_))|((refine wU ?_))));exact rQ
theorem PX (f t n s:Int) (h:¬ (0≤n∧n≤1099511627776∧0≤s∧s≤1099511627776)):aT Tryz.prog 89 [nH f t,.i n,.i s] [] (.tup [nH 0 0,.b false]) []:=by
  refine bU T Tryz.func89 rfl rfl rfl rfl ?_
  (repeat' (first|(first|(refine eW ?_)|(refine rJ ?_)|(refine sF ?_))|(first|(refine vV (by first|exact bR rfl|exact dK rfl|exact eH rfl|exact eO T rfl rfl rfl rfl|exact fM rfl rfl (zU0 h) (by ((repeat (first|exact .nil|exact .v _|refine .cons ?_ ?_|refine .sl rfl (by simp) ?_));done)) rfl rfl) ?_)|(refine bD T rfl rfl rfl rfl rfl rfl (by decide) rfl ?_)|(refine iM ?_)|(refine cC (by first|exact cM T rfl|exact cO rfl rfl|exact bE T rfl rfl (by decide) (by decide) rfl rfl rfl) rfl ?_))|((refine wT ?_))));exact rQ
def JH (a b c d:Int):Prop:=0≤a∧a≤1099511627776∧0≤b∧b≤1099511627776∧0≤c∧c≤1099511627776∧0≤d∧d≤1099511627776
theorem PE (t u w e:Int) (h:¬ JH t u w e):aT Tryz.prog 87 [.i t,.i u,.i w,.i e] [] (.tup [nH 0 0,.b false]) []:=by
  refine bU T Tryz.func87 rfl rfl rfl rfl ?_
  (repeat' (first|(first|(refine eW ?_)|(refine rJ ?_)|(refine sF ?_))|(first|(refine vV (by first|exact bR rfl|exact dK rfl|exact eH rfl|exact eO T rfl rfl rfl rfl|exact fM rfl rfl (zT9 h) (by ((repeat (first|exact .nil|exact .v _|refine .cons ?_ ?_|refine .sl rfl (by simp) ?_));done)) rfl rfl) ?_)|(refine bD T rfl rfl rfl rfl rfl rfl (by decide) rfl ?_)|(refine iM ?_)|(refine cC (by first|exact cM T rfl|exact bE T rfl rfl (by decide) (by decide) rfl rfl rfl) rfl ?_))|((refine wT ?_))));exact rQ
theorem KV (t u w e:Int) (h:JH t u w e) (h1:w+e-t<0∨u=0∧0<w-e-t):aT Tryz.prog 87 [.i t,.i u,.i w,.i e] [] (.tup [nH 0 0,.b false]) []:=by
  have h':=h;unfold JH at h';refine bU T Tryz.func87 rfl rfl rfl rfl ?_
  (repeat' (first|(first|(refine eW ?_)|(refine rJ ?_)|(refine xQ ?_)|(refine vT ?_)|(refine sF ?_))|(first|(refine vV (by first|exact bR rfl|exact dK rfl|exact gG rfl rfl|exact gJ rfl rfl|exact cE rfl rfl (by omega) (by omega)|exact cT rfl rfl (by omega) (by omega)|exact aL rfl rfl|exact fA rfl rfl|exact eD rfl rfl|exact eH rfl|exact eO T rfl rfl rfl rfl|exact fM rfl rfl (JG h) (by ((repeat (first|exact .nil|exact .v _|refine .cons ?_ ?_|refine .sl rfl (by simp) ?_));done)) rfl rfl) ?_)|(refine bD T rfl rfl rfl rfl rfl rfl (by decide) rfl ?_)|(refine iM ?_)|(refine FE rfl rfl ?_ rfl)|(refine FF rfl rfl ?_ rfl)|(refine SD rfl rfl ?_ rfl)|(refine uF rfl rfl (fun hb=>?_) (fun hb=>?_) rfl<;>(rw [hb];(try simp only [nm] at hb)))|(refine cC (by first|exact cM T rfl|exact bE T rfl rfl (by decide) (by decide) rfl rfl rfl) rfl ?_))|(first|(refine wT ?_)|(refine wU ?_)|(refine tX rfl (fun hb=>?_) (fun hb=>?_)<;>(try simp only [nm] at hb)))));all_goals first | (exfalso;omega) | exact rQ | skip
theorem KW (t u w e:Int) (h:JH t u w e) (h1:0≤w+e-t) (h2:u=0) (h3:w-e-t≤0):aT Tryz.prog 87 [.i t,.i u,.i w,.i e] [] (.tup [nH 0 20001,.b true]) []:=by
  have h':=h;unfold JH at h';refine bU T Tryz.func87 rfl rfl rfl rfl ?_
  (repeat' (first|(first|(refine eW ?_)|(refine rJ ?_)|(refine xQ ?_)|(refine vT ?_)|(refine sF ?_))|(first|(refine vV (by first|exact bR rfl|exact dK rfl|exact gG rfl rfl|exact gJ rfl rfl|exact cE rfl rfl (by omega) (by omega)|exact cT rfl rfl (by omega) (by omega)|exact aL rfl rfl|exact fA rfl rfl|exact eD rfl rfl|exact eH rfl|exact eO T rfl rfl rfl rfl|exact fM rfl rfl (JG h) (by ((repeat (first|exact .nil|exact .v _|refine .cons ?_ ?_|refine .sl rfl (by simp) ?_));done)) rfl rfl|exact kC (zP1)) ?_)|(refine bD T rfl rfl rfl rfl rfl rfl (by decide) rfl ?_)|(refine iM ?_)|(refine FE rfl rfl ?_ rfl)|(refine FF rfl rfl ?_ rfl)|(refine SD rfl rfl ?_ rfl)|(refine uF rfl rfl (fun hb=>?_) (fun hb=>?_) rfl<;>(rw [hb];(try simp only [nm] at hb)))|(refine cC (by first|exact cM T rfl|exact bE T rfl rfl (by decide) (by decide) rfl rfl rfl) rfl ?_))|(first|(refine wT ?_)|(refine wU ?_)|(refine tX rfl (fun hb=>?_) (fun hb=>?_)<;>(try simp only [nm] at hb)))));all_goals first | exact rQ | (exfalso;omega)
def yH4 (t u w e:Int):Int:=(max (w-e-t) 0+u-1) / u
def yH3 (t u w e:Int):Int:=(w+e-t) / u+1
set_option maxHeartbeats 1000000 in
theorem PF (t u w e:Int) (h:JH t u w e) (h1:0≤w+e-t) (h2:0<u):aT Tryz.prog 87 [.i t,.i u,.i w,.i e] [] (.tup [nH (JL (yH4 t u w e) (yH3 t u w e)) (cutT (yH4 t u w e) (yH3 t u w e)),.b (C6 (yH4 t u w e) (yH3 t u w e))]) []:=by
  have h':=h;unfold JH at h';have q1:=Int.ediv_nonneg h1 (Int.le_of_lt h2);have q2:=Int.ediv_le_self u h1;refine bU T Tryz.func87 rfl rfl rfl rfl ?_
  (repeat' (first|(first|(refine eW ?_)|(refine rJ ?_)|(refine xQ ?_)|(refine vT ?_)|(refine sF ?_))|(first|(refine vV (by first|exact bR rfl|exact dK rfl|exact gG rfl rfl|exact gJ rfl rfl|exact cE rfl rfl (by omega) (by omega)|exact cT rfl rfl (by omega) (by omega)|exact aL rfl rfl|exact fA rfl rfl|exact eD rfl rfl|exact eH rfl|exact eO T rfl rfl rfl rfl|exact fM rfl rfl (JG h) (by ((repeat (first|exact .nil|exact .v _|refine .cons ?_ ?_|refine .sl rfl (by simp) ?_));done)) rfl rfl) ?_)|(refine bD T rfl rfl rfl rfl rfl rfl (by decide) rfl ?_)|(refine iM ?_)|(refine FE rfl rfl ?_ rfl)|(refine FF rfl rfl ?_ rfl)|(refine SD rfl rfl ?_ rfl)|(refine uF rfl rfl (fun hb=>?_) (fun hb=>?_) rfl<;>(rw [hb];(try simp only [nm] at hb)))|(refine cC (by first|exact cM T rfl|exact bE T rfl rfl (by decide) (by decide) rfl rfl rfl) rfl ?_))|(first|(refine dV rfl (by first|exact bR rfl|exact cE rfl rfl (by omega) (by omega)|exact cT rfl rfl (by omega) (by omega)|exact zS9 rfl rfl (by omega) (by omega) (by omega)|exact kJ rfl rfl|exact yW rfl rfl|exact eO T rfl rfl rfl rfl|exact fQ rfl rfl (II _ _) rfl rfl rfl) ?_)|(refine DJ rfl rfl (by (dsimp only [List.nil_append,List.cons_append,nE,List.append_nil];done)) ?_))|(refine OG (id:=8) [[],[0],[],[0,1,2],rN 4,[],rN 6,[],[],[7,8],[7,8,9],rN 11,rN 12,rN 13,rN 13] (rM 46 15) [[],[],[46,47],[],[],rM 46 5,[],rM 46 7,rM 46 8,rM 46 7,rM 46 7,[],[],[],[59]] cK (by decide +kernel) ?_)|(first|(refine wT ?_)|(refine wU ?_)|(refine tX rfl (fun hb=>?_) (fun hb=>?_)<;>(try simp only [nm] at hb)))));all_goals first | (exfalso;omega) | exact rQ
end Go.Proofs.YtmmmeebiobjnbaaGreat
namespace Go.Ld
open Go.Ab Go.Proofs.YtmmmeebiobjnbaaGreat
abbrev SP:=Int × Int
abbrev W:=List Int × Int × List SP
abbrev G:=List Int × List W
abbrev fY (l:List SP):List (List AV):=l.map fun p=>[AV.i p.1,AV.i p.2]
abbrev wA (w:W):List AV:=[.rowE (Go.Proofs.YtmmmeebiobjnbaaGreat.ints w.1) 1,.i w.2.1,.rowE (fY w.2.2) 2]
abbrev gM (l:List W):List (List AV):=l.map wA
abbrev gA (g:G):List AV:=[.rowE (Go.Proofs.YtmmmeebiobjnbaaGreat.ints g.1) 1,.rowE (gM g.2) 3]
abbrev kU (l:List G):List (List AV):=l.map gA
def cI (a b:Int):Int:=if a<b then -1 else if b<a then 1 else 0
def W6 (a b:Int):Int:=if a=0 then b else a
def cL:List Int→List Int→Int
  | [],[]=>0
  | [],_::_=>-1
  | _::_,[]=>1
  | x::a,y::b=>W6 (cI x y) (cL a b)
def cS (x y:SP):Int:=W6 (cI x.1 y.1) (cI x.2 y.2)
def cB:List SP→List SP→Int
  | [],[]=>0
  | [],_::_=>-1
  | _::_,[]=>1
  | x::a,y::b=>W6 (cS x y) (cB a b)
def pH (a b:W):Int:=W6 (cL a.1 b.1) (cB a.2.2 b.2.2)
def eR (a b:W):Int:=W6 (pH a b) (cI a.2.1 b.2.1)
structure HU {α:Type} (c:α→α→Int):Prop where
  eq:∀ a b,c a b=0↔a=b
  neg:∀ a b,c a b = - c b a
  tr:∀ a b d,c a b<0→c b d<0→c a d<0
theorem HU.rfl' {α:Type}{c:α→α→Int}(h:HU c) (a:α):c a a=0:=(h.eq a a).2 rfl
theorem HU.le_tr {α:Type}{c:α→α→Int}(h:HU c){a b d:α}(h1:c a b≤0) (h2:c b d≤0):c a d≤0:=by
  by_cases e:c a b=0
  · rw [(h.eq _ _).1 e];exact h2
  · by_cases e':c b d=0
    · rw [← (h.eq _ _).1 e'];exact h1
    · have:=h.tr a b d (by omega) (by omega);omega
theorem rI:HU cI where
  eq a b:=by unfold cI;split <;> (try split) <;> omega
  neg a b:=by unfold cI;split <;> split <;> (try split) <;> omega
  tr a b d := by unfold cI; repeat' split
                 all_goals omega
theorem IP {a b:Int}:W6 a b=0↔a=0∧b=0:=by unfold W6;split <;> omega
theorem IN {a b:Int}:W6 (-a) (-b) = - W6 a b:=by unfold W6;split <;> split <;> omega
theorem QD {a b:Int}:W6 a b<0↔a<0∨a=0∧b<0:=by unfold W6;split <;> omega
theorem HU.lex {α β γ:Type}{c:α→α→Int}{d:β→β→Int}(hc:HU c) (hd:HU d) (f:γ→α) (g:γ→β) (inj:∀ x y,f x=f y→g x=g y→x=y):HU fun x y=>W6 (c (f x) (f y)) (d (g x) (g y)) where
  eq a b:=by
    rw [IP,hc.eq,hd.eq];exact ⟨fun h=>inj _ _ h.1 h.2,fun h=>by rw [h];exact ⟨rfl,rfl⟩⟩
  neg a b:=by rw [hc.neg,hd.neg,IN]
  tr a b e h1 h2:=by
    simp only [QD] at *;rcases h1 with h1 | ⟨h1,h1'⟩
    · rcases h2 with h2 | ⟨h2,h2'⟩
      · exact .inl (hc.tr _ _ _ h1 h2)
      · rw [(hc.eq _ _).1 h2] at h1;exact .inl h1
    · rw [(hc.eq _ _).1 h1];rcases h2 with h2 | ⟨h2,h2'⟩
      · exact .inl h2
      · exact .inr ⟨h2,hd.tr _ _ _ h1' h2'⟩
theorem zH1:HU cL where
  eq:=fun a=>by
    induction a with
    | nil=>intro b;cases b <;> simp [cL]
    | cons x a ih=>intro b; cases b with
      | nil=>simp [cL]
      | cons y b=>simp only [cL,IP,rI.eq,ih,List.cons.injEq]
  neg:=fun a=>by
    induction a with
    | nil=>intro b;cases b <;> simp [cL]
    | cons x a ih=>intro b; cases b with
      | nil=>simp [cL]
      | cons y b=>simp only [cL];rw [rI.neg,ih,IN]
  tr:=fun a=>by
    induction a with
    | nil=>intro b d;cases b <;> cases d <;> simp [cL]
    | cons x a ih=>
      intro b d h1 h2;cases b with
      | nil=>simp [cL] at h1
      | cons y b=>cases d with
        | nil=>simp [cL] at h2
        | cons z d=>
          simp only [cL,QD] at *;rcases h1 with h1 | ⟨h1,h1'⟩
          · rcases h2 with h2 | ⟨h2,h2'⟩
            · exact .inl (rI.tr _ _ _ h1 h2)
            · rw [(rI.eq _ _).1 h2] at h1;exact .inl h1
          · rw [(rI.eq _ _).1 h1];rcases h2 with h2 | ⟨h2,h2'⟩
            · exact .inl h2
            · exact .inr ⟨h2,ih _ _ h1' h2'⟩
theorem DN:HU cS:=HU.lex rI rI (·.1) (·.2) fun x y h1 h2=>Prod.ext h1 h2
theorem zH2:HU cB where
  eq:=fun a=>by
    induction a with
    | nil=>intro b;cases b <;> simp [cB]
    | cons x a ih=>intro b; cases b with
      | nil=>simp [cB]
      | cons y b=>simp only [cB,IP,DN.eq,ih,List.cons.injEq]
  neg:=fun a=>by
    induction a with
    | nil=>intro b;cases b <;> simp [cB]
    | cons x a ih=>intro b; cases b with
      | nil=>simp [cB]
      | cons y b=>simp only [cB];rw [DN.neg,ih,IN]
  tr:=fun a=>by
    induction a with
    | nil=>intro b d;cases b <;> cases d <;> simp [cB]
    | cons x a ih=>
      intro b d h1 h2;cases b with
      | nil=>simp [cB] at h1
      | cons y b=>cases d with
        | nil=>simp [cB] at h2
        | cons z d=>
          simp only [cB,QD] at *;rcases h1 with h1 | ⟨h1,h1'⟩
          · rcases h2 with h2 | ⟨h2,h2'⟩
            · exact .inl (DN.tr _ _ _ h1 h2)
            · rw [(DN.eq _ _).1 h2] at h1;exact .inl h1
          · rw [(DN.eq _ _).1 h1];rcases h2 with h2 | ⟨h2,h2'⟩
            · exact .inl h2
            · exact .inr ⟨h2,ih _ _ h1' h2'⟩
theorem MM:HU (fun x y:List Int × List SP=>W6 (cL x.1 y.1) (cB x.2 y.2)):=HU.lex zH1 zH2 (·.1) (·.2) fun x y h1 h2=>Prod.ext h1 h2
theorem jU:HU eR:=HU.lex MM rI (fun w:W=>(w.1,w.2.2)) (fun w=>w.2.1) fun x y h1 h2=>by
  obtain ⟨a,b,c⟩:=x;obtain ⟨a',b',c'⟩:=y;simp at h1 h2;obtain ⟨h1,h3⟩:=h1;rw [h1,h2,h3]
theorem pT {a b:W}:pH a b=0↔a.1=b.1∧a.2.2=b.2.2:=by unfold pH;rw [IP,zH1.eq,zH2.eq]
def EM {α:Type}(c:α→α→Int) (w:α):List α→List α
  | []=>[w]
  | x::l=>if c w x≤0 then w::x::l else x::EM c w l
def eJ {α:Type}(c:α→α→Int):List α→List α
  | []=>[]
  | x::l=>EM c x (eJ c l)
theorem F3 {α:Type}(c:α→α→Int) (w:α):∀ l,(EM c w l).Perm (w::l)
  | []=>.refl _
  | x::l=>by
    unfold EM;split
    · exact .refl _
    · exact ((F3 c w l).cons x).trans (.swap _ _ _)
theorem dU {α:Type}(c:α→α→Int):∀ l,(eJ c l).Perm l
  | []=>.refl _
  | x::l=>(F3 c x _).trans ((dU c l).cons x)
theorem TO {α:Type}{c:α→α→Int}(h:HU c) (w:α):∀ {l:List α},l.Pairwise (fun a b=>c a b≤0)→(EM c w l).Pairwise (fun a b=>c a b≤0)
  | [],_=>kR _ _
  | x::l,hl=>by
    rw [fB] at hl;unfold EM;split
    · rename_i hw;rw [fB,fB];refine ⟨fun y hy=>?_,hl⟩
      rcases bN.1 hy with rfl | hy
      · exact hw
      · exact h.le_tr hw (hl.1 y hy)
    · rename_i hw;rw [fB];refine ⟨fun y hy=>?_,TO h w hl.2⟩
      rcases bN.1 ((F3 c w l).mem_iff.1 hy) with rfl | hy
      · have:=h.neg x y;omega
      · exact hl.1 y hy
theorem mB {α:Type}{c:α→α→Int}(h:HU c):∀ l,(eJ c l).Pairwise (fun a b=>c a b≤0)
  | []=>.nil
  | x::l=>TO h x (mB h l)
theorem J0 {α:Type}{c:α→α→Int}(h:HU c){l m:List α}(hp:m.Perm l) (hm:m.Pairwise (fun a b=>c a b≤0)):m=eJ c l:=
  List.Perm.eq_of_pairwise (le:=fun a b=>c a b≤0) (fun a b _ _ h1 h2=>(h.eq a b).1 (by have:=h.neg a b;omega)) hm (mB h l) (hp.trans (dU c l).symm)
def lB {α:Type}(e:α→α→Bool) (p:α):List α→List α
  | []=>[]
  | y::l=>if e y p then lB e y l else y::lB e y l
def C7 {α:Type}(e:α→α→Bool):List α→List α
  | []=>[]
  | x::l=>x::lB e x l
def H9 (a b:W):Bool:=decide (pH a b=0)
def gS (l:List W):List W:=C7 H9 (eJ eR l)
structure Cx where
  m:Int
  st:Int
  er:Int
  sl:Int
  ks:List KD
  ls:List LT
  bs:List BX
structure Ev where
  k:Int
  a:Int
  b:Int
  n:Int
  ids:List Int
def gP (w:W) (i:Nat):Int:=w.1.getD i 0
def gC (w:W) (i:Nat):SP:=w.2.2.getD i (0,0)
def sC (w:W) (i:Nat) (r:SP):W:=(w.1,w.2.1,w.2.2.set i r)
def O3 (f t:Int):SP × Bool:=((JL f t,cutT f t),C6 f t)
def GX (a b c d:Int):Bool:=decide (0≤a∧a≤1099511627776∧0≤b∧b≤1099511627776∧0≤c∧c≤1099511627776∧0≤d∧d≤1099511627776)
def XY (t u w e:Int):SP × Bool:=if GX t u w e=true then (if w+e-t<0∨u=0∧0<w-e-t then ((0,0),false) else if u=0 then ((0,20001),true) else O3 (yH4 t u w e) (yH3 t u w e)) else ((0,0),false)
def vZ (t u w e:Int) (r:SP):SP × Bool:=let q:=XY t u w e;if q.2 then O3 (max r.1 q.1.1) (min r.2 q.1.2) else q
def B5 (r:SP) (n s:Int):SP × Bool:=if 0≤n∧n≤1099511627776∧0≤s∧s≤1099511627776 then O3 (r.1-n-s) (r.2-max (n-s) 0) else ((0,0),false)
def kQ (c:Cx) (w:W) (i:Nat) (s:Ev):W × Bool:=
  if s.k=0 then (if gP w i∈s.ids then (w,decide ((s.ids.length:Int)-1≤c.st)) else ((w.1,w.2.1+1,w.2.2),decide ((s.ids.length:Int)≤c.st)))
  else if s.k=1 then
    let b:=c.bs.getD (gP w i).toNat (0,0,0)
    let q:=vZ b.2.2 (oA c.ks c.ls b.1) s.n c.er (gC w i)
    (sC w i q.1,q.2)
  else if s.k=2 then let q:=B5 (gC w i) s.n c.sl;(sC w i q.1,q.2)
  else if s.k=3 then (sC w i (s.n,s.n+1),xL (gC w i).1 (gC w i).2 s.n)
  else if s.k=5 then (w,decide (gP w i=s.n))
  else (w,true)
def pL (w:W) (i k:Nat):W:=((w.1.set i (gP w k)).set k (gP w i),w.2.1,(w.2.2.set i (gC w k)).set k (gC w i))
def pK (l:List G) (b:Int):Int:=match l.findIdx? fun g=>decide (b∈g.1) with
  | some i=>i
  | none=>-1
def H5 (a b:G) (x y:W) (l:List Int):W:=(l.map (fun k=>if k∈a.1 then gP x (a.1.idxOf k) else gP y (b.1.idxOf k)),x.2.1+y.2.1,l.map (fun k=>if k∈a.1 then gC x (a.1.idxOf k) else gC y (b.1.idxOf k)))
def qC (a b:G) (l:List Int):List W:=a.2.flatMap fun x=>b.2.map fun y=>H5 a b x y l
def mK (l:List G) (i:Nat):G:=l.getD i ([],[])
def mX (x y:G):G:=let bodies:=eJ cI (x.1++y.1);(bodies,qC x y bodies)
def join (l:List G) (a b:Int):Option (List G):=
  let i:=pK l a;let k:=pK l b
  if i=k then some l else
  let x:=mK l i.toNat;let y:=mK l k.toNat
  if 6<x.1.length+y.1.length∨1000<x.2.length*y.2.length then none else
  some ((l.set (min i k).toNat (mX x y)).eraseIdx (max i k).toNat)
def gQ (g:G):Int:=match g.2 with
  | []=>0
  | w::l=>l.foldl (fun m x=>if x.2.1<m then x.2.1 else m) w.2.1
def B0 (g:G) (i:Nat):Bool:=match g.2 with
  | []=>false
  | f::l=>(f::l).all fun w=>decide (gP w i=gP f i∧gC w i=gC f i)
def iR (g:G):Option Nat:=if g.1.length<2∨g.2=[] then none else (List.range g.1.length).find? (B0 g)
def iU (g:G):W:=g.2.headD ([],0,[])
def nR (g:G) (k:Nat):G:=([g.1.getD k 0],[([gP (iU g) k],0,[gC (iU g) k])])
def kD (g:G) (k:Nat):G:=(g.1.eraseIdx k,gS (g.2.map fun w=>(w.1.eraseIdx k,w.2.1,w.2.2.eraseIdx k)))
def mD:Nat→G→List G
  | 0,g=>[g]
  | n+1,g=>match iR g with
    | none=>[g]
    | some k=>nR g k::mD n (kD g k)
def cG (a b:G):Int:=cI (a.1.headD 0) (b.1.headD 0)
def rT (l:List G):List G:=eJ cG (l.flatMap fun g=>mD g.1.length g)
def kH (l:List G):Int:=(l.map gQ).sum
def paid (c:Cx) (all:List G):List G:=all.map fun g=>(g.1,g.2.filter fun w=>decide (w.2.1+(kH all-gQ g)≤c.m))
def wD (c:Cx) (all:List G):List G:=rT (paid c all)
def mQ (c:Cx) (s:Ev) (g:G):List W:=
  let i:=g.1.idxOf s.a
  g.2.flatMap fun w=>(if (kQ c w i s).2 then [(kQ c w i s).1] else [])++(if s.k=4 then [pL w i (g.1.idxOf s.b)] else [])
def zW8 (l:List Int) (n:Int):Bool:=(List.range l.length).all fun i=>decide (0≤l.getD i 0∧l.getD i 0≤n-1∧(0<i→l.getD (i-1) 0<l.getD i 0))
def iQ (n:Int) (s:Ev):Bool:=decide (0≤s.a∧s.a≤n-1)&&decide (s.k=0∨s.ids.length=0)&&decide (s.k=4∨s.b=0) &&
  (if s.k=0 then decide (s.n=0)&&zW8 s.ids n else if s.k=1∨s.k=2∨s.k=3 then decide (0≤s.n∧s.n≤1099511627776) else if s.k=4 then decide (s.n=0∧s.a+1≤s.b∧s.b≤n-1) else if s.k=5 then decide (0≤s.n∧s.n≤n-1) else false)
def sS (c:Cx) (l all:List G) (s:Ev):Int × List G:=
  let at_:=(pK all s.a).toNat
  let g:=mK all at_
  let ws:=gS (mQ c s g)
  if ws=[] then (26,l) else if 1000<ws.length then (6,l) else
  let out:=wD c (all.set at_ (g.1,ws))
  if out.any (fun g=>g.2.isEmpty) then (26,l) else (0,out)
def eY (c:Cx) (l:List G) (s:Ev):Int × List G:=
  if iQ c.bs.length s then
    (if s.k=4 then (match join l s.a s.b with
      | none=>(6,l)
      | some all=>sS c l all s)
    else sS c l l s)
  else (1,l)
def oB (c:Cx):List G:=(List.range c.bs.length).map fun (i:Nat)=>([(i:Int)],[([(i:Int)],0,[((c.bs.getD i (0,0,0)).2.1,(c.bs.getD i (0,0,0)).2.1+1)])])
theorem zQ2 {a b d:W}(h1:pH a b<0) (h2:pH b d<0):pH a d<0:=MM.tr (a.1,a.2.2) (b.1,b.2.2) (d.1,d.2.2) h1 h2
theorem QB {a b d:W}(h:pH b a=0):pH a d=pH b d:=by
  obtain ⟨h1,h2⟩:=pT.1 h;unfold pH;rw [h1,h2]
theorem UE {a b:W}(h:eR a b≤0):pH a b<0∨pH a b=0∧a.2.1≤b.2.1:=by
  unfold eR W6 at h;split at h
  · rename_i e;refine .inr ⟨e,?_⟩;unfold cI at h;split at h <;> (try split at h) <;> omega
  · omega
theorem zG {α:Type}(e:α→α→Bool):∀ (p:α) (l:List α),(lB e p l).Sublist l
  | _,[]=>.slnil
  | p,y::l=>by
    unfold lB;split
    · exact (zG e y l).cons _
    · exact (zG e y l).cons_cons _
theorem HD {α:Type}(e:α→α→Bool):∀ (l:List α),(C7 e l).Sublist l
  | []=>.slnil
  | x::l=>(zG e x l).cons_cons _
theorem qM {l:List W}{w:W}(h:w∈gS l):w∈l:=(dU eR l).mem_iff.1 ((HD _ _).mem h)
theorem sU (l:List W):(gS l).length≤l.length:=by
  have:=(HD H9 (eJ eR l)).length_le;rw [(dU eR l).length_eq] at this;exact this
theorem wO:∀ (l:List W) (q p:W),(p::l).Pairwise (fun a b=>eR a b≤0)→pH q p=0→q.2.1≤p.2.1→∀ w,w∈p::l→∃ v,v∈q::lB H9 p l∧pH v w=0∧v.2.1≤w.2.1
  | [],q,p,hs,h1,h2,w,hw=>by
    rcases bN.1 hw with rfl | hw
    · exact ⟨q,aQ,h1,h2⟩
    · cases hw
  | y::l,q,p,hs,h1,h2,w,hw=>by
    have hs':=fB.1 hs;rcases bN.1 hw with rfl | hw
    · exact ⟨q,aQ,h1,h2⟩
    · unfold lB;by_cases e:H9 y p=true
      · rw [if_pos e];have e':pH y p=0:=by unfold H9 at e;simpa using e
        have hpy:pH p y=0:=by obtain ⟨a,b⟩:=pT.1 e';exact pT.2 ⟨a.symm,b.symm⟩
        rcases UE (hs'.1 y aQ) with hl | ⟨_,hl⟩
        · omega
        · refine wO l q y hs'.2 ?_ (by omega) w hw
          obtain ⟨a,b⟩:=pT.1 h1;obtain ⟨a',b'⟩:=pT.1 hpy;exact pT.2 ⟨a.trans a',b.trans b'⟩
      · rw [if_neg e];obtain ⟨v,hv,h3,h4⟩:=wO l y y hs'.2 (pT.2 ⟨rfl,rfl⟩) (dX _) w hw;exact ⟨v,aJ _ hv,h3,h4⟩
theorem yD {l:List W}{w:W}(h:w∈l):∃ v,v∈gS l∧v.1=w.1∧v.2.2=w.2.2∧v.2.1≤w.2.1:=by
  have hs:=mB jU l;have hw:=(dU eR l).mem_iff.2 h;unfold gS;generalize eJ eR l=m at *;cases m with
  | nil=>cases hw
  | cons x m=>
    obtain ⟨v,hv,h1,h2⟩:=wO m x x hs (pT.2 ⟨rfl,rfl⟩) (dX _) w hw;exact ⟨v,hv,(pT.1 h1).1,(pT.1 h1).2,h2⟩
theorem X9:∀ (l:List W) (p:W),(p::l).Pairwise (fun a b=>eR a b≤0)→(∀ z,z∈lB H9 p l→pH p z<0)∧(lB H9 p l).Pairwise (fun a b=>pH a b<0)
  | [],p,_=>⟨fun z hz=>(by cases hz),.nil⟩
  | y::l,p,hs=>by
    have hs':=fB.1 hs;obtain ⟨h1,h2⟩:=X9 l y hs'.2;unfold lB;by_cases e:H9 y p=true
    · rw [if_pos e];have e':pH y p=0:=by unfold H9 at e;simpa using e
      exact ⟨fun z hz=>by rw [QB e'];exact h1 z hz,h2⟩
    · rw [if_neg e];have e':pH p y<0:=by
        rcases UE (hs'.1 y aQ) with hl | ⟨hl,_⟩
        · exact hl
        · exfalso;apply e;unfold H9;obtain ⟨a,b⟩:=pT.1 hl;simp [pT.2 ⟨a.symm,b.symm⟩]
      refine ⟨fun z hz=>?_,fB.2 ⟨h1,h2⟩⟩
      rcases bN.1 hz with rfl | hz
      · exact e'
      · exact zQ2 e' (h1 z hz)
theorem CJ (l:List W):(gS l).Pairwise (fun a b=>pH a b<0):=by
  have hs:=mB jU l;unfold gS;generalize eJ eR l=m at *;cases m with
  | nil=>exact .nil
  | cons x m=>exact fB.2 (X9 m x hs)
theorem W4 {l:List W}:gS l=[]↔l=[]:=by
  constructor
  · intro h;cases l with
    | nil=>rfl
    | cons x l=>obtain ⟨v,hv,_⟩:=yD (l:=x::l) (w:=x) aQ;rw [h] at hv;cases hv
  · rintro rfl;rfl
abbrev As:=Int→Int × SP
def oV (bs:List Int) (w:W) (f:As):Prop:=w.1=bs.map (fun b=>(f b).1)∧w.2.2=bs.map (fun b=>(f b).2)
def K8 (g:G) (f:As) (m:Int):Prop:=∃ w,w∈g.2∧oV g.1 w f∧w.2.1≤m
def Sem:List G→As→Int→Prop
  | [],_,M=>0≤M
  | g::gs,f,M=>∃ m,K8 g f m∧Sem gs f (M-m)
theorem K8.mono {g:G}{f:As}{m m':Int}(h:K8 g f m) (hm:m≤m'):K8 g f m':=by
  obtain ⟨w,h1,h2,h3⟩:=h;exact ⟨w,h1,h2,by omega⟩
theorem Sem.mono:∀ {gs:List G}{f:As}{M M':Int},Sem gs f M→M≤M'→Sem gs f M'
  | [],f,M,M',h,hm=>by unfold Sem at *;omega
  | g::gs,f,M,M',⟨m,h1,h2⟩,hm=>⟨m,h1,h2.mono (by omega)⟩
theorem SQ {g:G}{f:As}{M:Int}:Sem [g] f M↔K8 g f M:=by
  constructor
  · rintro ⟨m,h1,h2⟩;unfold Sem at h2;exact h1.mono (by omega)
  · intro h;exact ⟨M,h,by unfold Sem;omega⟩
theorem IF:∀ (a b:List G) (f:As) (M:Int),Sem (a++b) f M↔∃ m,Sem a f m∧Sem b f (M-m)
  | [],b,f,M=>by
    constructor
    · intro h;exact ⟨0,by unfold Sem;omega,by rw [tQ];exact h⟩
    · rintro ⟨m,h1,h2⟩;unfold Sem at h1;exact h2.mono (by omega)
  | g::a,b,f,M=>by
    simp only [List.cons_append,Sem];constructor
    · rintro ⟨m,h1,h2⟩;obtain ⟨m',h3,h4⟩:=(IF a b f _).1 h2;exact ⟨m+m',⟨m,h1,h3.mono (by omega)⟩,h4.mono (by omega)⟩
    · rintro ⟨m,⟨m',h1,h2⟩,h3⟩;exact ⟨m',h1,(IF a b f _).2 ⟨m-m',h2,h3.mono (by omega)⟩⟩
theorem pE {a b:List G}(h:a.Perm b):∀ {f:As}{M:Int},Sem a f M↔Sem b f M:=by
  induction h with
  | nil=>intro f M;exact Iff.rfl
  | cons x _ ih=>intro f M;simp only [Sem,ih]
  | swap x y l=>
    intro f M;simp only [Sem];constructor
    · rintro ⟨m,h1,m',h2,h3⟩;exact ⟨m',h2,m,h1,h3.mono (by omega)⟩
    · rintro ⟨m,h1,m',h2,h3⟩;exact ⟨m',h2,m,h1,h3.mono (by omega)⟩
  | trans _ _ ih1 ih2=>intro f M;rw [ih1,ih2]
theorem LW {F:G→List G}{f:As}:∀ {gs:List G},(∀ g,g∈gs→∀ M,Sem (F g) f M↔K8 g f M)→∀ {M:Int},Sem (gs.flatMap F) f M↔Sem gs f M
  | [],_,M=>Iff.rfl
  | g::gs,h,M=>by
    rw [bM,IF];simp only [Sem,LW (fun g hg=>h g (aJ _ hg)),h g aQ]
theorem W7 {bs:List Int}{l:List W}{f:As}{m:Int}:K8 (bs,gS l) f m↔K8 (bs,l) f m:=by
  constructor
  · rintro ⟨w,h1,h2,h3⟩;exact ⟨w,qM h1,h2,h3⟩
  · rintro ⟨w,h1,h2,h3⟩;obtain ⟨v,hv,a,b,d⟩:=yD h1;exact ⟨v,hv,⟨a.trans h2.1,b.trans h2.2⟩,K9 d h3⟩
def PC (r:SP):Prop:=0≤r.1∧r.1<r.2∧r.2≤20001
structure HO (n k:Nat) (w:W):Prop where
  pl:w.1.length=k
  cl:w.2.2.length=k
  pr:∀ x,x∈w.1→0≤x∧x<n
  nd:w.1.Nodup
  m0:0≤w.2.1
  m1:w.2.1≤4000000
  sp:∀ r,r∈w.2.2→PC r
structure D8 (n:Nat) (g:G):Prop where
  ne:g.1≠[]
  up:g.1.Pairwise (· < ·)
  rg:∀ b,b∈g.1→0≤b∧b<n
  ln:g.1.length≤6
  ws:∀ w,w∈g.2→HO n g.1.length w
  same:∀ w v,w∈g.2→v∈g.2→w.1.Perm v.1
theorem D8.nd {n:Nat}{g:G}(h:D8 n g):g.1.Nodup:=h.up.imp (fun h=>by omega)
theorem T7:∀ (l:List W) (a:Int),l.foldl (fun m x=>if x.2.1<m then x.2.1 else m) a≤a∧(∀ x,x∈l→l.foldl (fun m x=>if x.2.1<m then x.2.1 else m) a≤x.2.1)∧(l.foldl (fun m x=>if x.2.1<m then x.2.1 else m) a=a∨∃ x,x∈l∧l.foldl (fun m x=>if x.2.1<m then x.2.1 else m) a=x.2.1)
  | [],a=>⟨dX _,fun x hx=>(by cases hx),.inl rfl⟩
  | y::l,a=>by
    rw [rS];obtain ⟨h1,h2,h3⟩:=T7 l (if y.2.1<a then y.2.1 else a)
    generalize l.foldl (fun m x=>if x.2.1<m then x.2.1 else m) (if y.2.1<a then y.2.1 else a)=q at *
    refine ⟨by split at h1 <;> omega,fun x hx=>?_,?_⟩
    · rcases bN.1 hx with rfl | hx
      · split at h1 <;> omega
      · exact h2 x hx
    · rcases h3 with h3 | ⟨x,hx,h3⟩
      · split at h3
        · exact .inr ⟨y,aQ,h3⟩
        · exact .inl h3
      · exact .inr ⟨x,aJ _ hx,h3⟩
theorem uP {g:G}{w:W}(h:w∈g.2):gQ g≤w.2.1:=by
  unfold gQ;cases hg:g.2 with
  | nil=>rw [hg] at h;cases h
  | cons x l=>
    rw [hg] at h;obtain ⟨h1,h2,h3⟩:=T7 l x.2.1;rcases bN.1 h with rfl | h
    · exact h1
    · exact h2 _ h
theorem uB {g:G}(h:g.2≠[]):∃ w,w∈g.2∧w.2.1=gQ g:=by
  unfold gQ;cases hg:g.2 with
  | nil=>exact absurd hg h
  | cons x l=>
    obtain ⟨h1,h2,h3⟩:=T7 l x.2.1;rcases h3 with h3 | ⟨y,hy,h3⟩
    · exact ⟨x,aQ,h3.symm⟩
    · exact ⟨y,aJ _ hy,h3.symm⟩
theorem VZ {g:G}{f:As}{m:Int}(h:K8 g f m):gQ g≤m:=by
  obtain ⟨w,h1,_,h3⟩:=h;exact K9 (uP h1) h3
theorem FM:∀ {gs:List G}{f:As}{M:Int},Sem gs f M→kH gs≤M
  | [],f,M,h=>by unfold Sem at h;simpa [kH] using h
  | g::gs,f,M,⟨m,h1,h2⟩=>by
    have:=VZ h1;have:=FM h2;simp only [kH,List.map_cons,yP3] at *;omega
def yI8 (c:Cx) (S:Int) (all:List G):List G:=all.map fun g=>(g.1,g.2.filter fun w=>decide (w.2.1+(S-gQ g)≤c.m))
theorem Q8 {c:Cx}{S:Int}:∀ {gs:List G}{f:As}{M:Int},M+(S-kH gs)≤c.m→(Sem (yI8 c S gs) f M↔Sem gs f M)
  | [],f,M,h=>Iff.rfl
  | g::gs,f,M,h=>by
    have e:kH (g::gs)=gQ g+kH gs:=by simp [kH]
    constructor
    · rintro ⟨m,⟨w,h1,h2,h3⟩,h4⟩;have h1':=(dW.1 h1).1;have:=uP h1';exact ⟨m,⟨w,h1',h2,h3⟩,(Q8 (by omega)).1 h4⟩
    · rintro ⟨m,⟨w,h1,h2,h3⟩,h4⟩;have:=uP h1;have:=FM h4;refine ⟨m,⟨w,?_,h2,h3⟩,(Q8 (by omega)).2 h4⟩
      rw [dW];refine ⟨h1,?_⟩;simp only [decide_eq_true_eq];omega
theorem ZA {c:Cx}{gs:List G}{f:As}{M:Int}(h:M≤c.m):Sem (paid c gs) f M↔Sem gs f M:=Q8 (S:=kH gs) (by omega)
theorem CX {bs:List Int}{w:W}{f:As}(h:oV bs w f){i:Nat}(hi:i<bs.length):gP w i=(f bs[i]).1:=by
  unfold gP;rw [h.1];simp [List.getD,hi]
theorem CY {bs:List Int}{w:W}{f:As}(h:oV bs w f){i:Nat}(hi:i<bs.length):gC w i=(f bs[i]).2:=by
  unfold gC;rw [h.2];simp [List.getD,hi]
theorem xG {α β:Type}(f:α→β):∀ (l:List α) (k:Nat),(l.map f).eraseIdx k=(l.eraseIdx k).map f
  | [],_=>rfl
  | x::l,0=>rfl
  | x::l,k+1=>by simp [xG f l k]
def zU7 (k:Nat) (w:W):W:=(w.1.eraseIdx k,w.2.1,w.2.2.eraseIdx k)
theorem zB {α:Type}:∀ {k:Nat}{a b:List α}(x:α),a.length=b.length→a.getD k x=b.getD k x→a.eraseIdx k=b.eraseIdx k→a=b
  | _,[],[],_,_,_,_=>rfl
  | _,[],_::_,_,h,_,_=>by simp at h
  | _,_::_,[],_,h,_,_=>by simp at h
  | 0,y::a,z::b,x,h,h1,h2=>by
    simp at h1 h2;rw [h1,h2]
  | k+1,y::a,z::b,x,h,h1,h2=>by
    simp at h h1 h2;rw [h2.1,zB x h (by simpa using h1) h2.2]
theorem DD {bs:List Int}{w:W}{f:As}{k:Nat}(hk:k<bs.length) (h1:w.1.length=bs.length) (h2:w.2.2.length=bs.length) :
    oV bs w f↔oV (bs.eraseIdx k) (zU7 k w) f∧gP w k=(f (bs.getD k 0)).1∧gC w k=(f (bs.getD k 0)).2:=by
  have hb:bs.getD k 0=bs[k]:=by simp [List.getD,hk]
  constructor
  · intro h;refine ⟨⟨?_,?_⟩,?_,?_⟩
    · show w.1.eraseIdx k=_;rw [h.1,xG]
    · show w.2.2.eraseIdx k=_;rw [h.2,xG]
    · rw [hb];exact CX h hk
    · rw [hb];exact CY h hk
  · rintro ⟨h,h3,h4⟩;rw [hb] at h3 h4;constructor
    · refine zB (k:=k) 0 (by simp [h1]) ?_ (by rw [xG];exact h.1)
      rw [show w.1.getD k 0=gP w k from rfl,h3];simp [List.getD,hk]
    · refine zB (k:=k) (0,0) (by simp [h2]) ?_ (by rw [xG];exact h.2)
      rw [show w.2.2.getD k (0,0)=gC w k from rfl,h4];simp [List.getD,hk]
theorem PS {g:G}{i:Nat}(hne:g.2≠[]):B0 g i=true↔∀ w,w∈g.2→gP w i=gP (iU g) i∧gC w i=gC (iU g) i:=by
  unfold B0 iU;cases hg:g.2 with
  | nil=>exact absurd hg hne
  | cons f l=>simp
theorem kM {g:G}{k:Nat}(h:iR g=some k):2≤g.1.length∧g.2≠[]∧k<g.1.length∧∀ w,w∈g.2→gP w k=gP (iU g) k∧gC w k=gC (iU g) k:=by
  unfold iR at h;split at h
  · cases h
  · rename_i hc;have hne:g.2≠[]:=fun e=>hc (.inr e)
    have h1:=List.find?_some h;have h2:=List.mem_of_find?_eq_some h;rw [eU] at h2;exact ⟨by omega,hne,h2,(PS hne).1 h1⟩
theorem jS {g:G}(h:g.2≠[]):iU g∈g.2:=by
  unfold iU;cases hg:g.2 with
  | nil=>exact absurd hg h
  | cons f l=>simp
theorem MO {g:G}{k:Nat}{f:As}{m:Int}:K8 (nR g k) f m↔gP (iU g) k=(f (g.1.getD k 0)).1∧gC (iU g) k=(f (g.1.getD k 0)).2∧0≤m:=by
  unfold K8 nR;constructor
  · rintro ⟨w,h1,h2,h3⟩;simp at h1;subst h1;obtain ⟨h4,h5⟩:=h2;simp at h4 h5;exact ⟨h4,h5,h3⟩
  · rintro ⟨h1,h2,h3⟩;exact ⟨_,bC.2 rfl,⟨by simp [h1],by simp [h2]⟩,h3⟩
theorem VX {n:Nat}{g:G}(ok:D8 n g){k:Nat}(hc:iR g=some k){f:As}{M:Int}:(∃ m,K8 (nR g k) f m∧K8 (kD g k) f (M-m))↔K8 g f M:=by
  obtain ⟨h1,hne,hk,hs⟩:=kM hc;have hr:∀ M,K8 (kD g k) f M↔∃ w,w∈g.2∧oV (g.1.eraseIdx k) (zU7 k w) f∧w.2.1≤M:=by
    intro M;unfold kD;rw [W7];unfold K8;constructor
    · rintro ⟨v,hv,a,b⟩;obtain ⟨w,hw,rfl⟩:=bA.1 hv;exact ⟨w,hw,a,b⟩
    · rintro ⟨w,hw,a,b⟩;exact ⟨zU7 k w,bA.2 ⟨w,hw,rfl⟩,a,b⟩
  constructor
  · rintro ⟨m,h2,h3⟩;obtain ⟨a,b,c⟩:=MO.1 h2;obtain ⟨w,hw,d,e⟩:=(hr _).1 h3;have:=ok.ws w hw;exact ⟨w,hw,(DD hk this.pl this.cl).2 ⟨d,by rw [(hs w hw).1];exact a,by rw [(hs w hw).2];exact b⟩,by omega⟩
  · rintro ⟨w,hw,d,e⟩;have:=ok.ws w hw;obtain ⟨a,b,c⟩:=(DD hk this.pl this.cl).1 d;refine ⟨0,MO.2 ⟨by rw [← (hs w hw).1];exact b,by rw [← (hs w hw).2];exact c,dX _⟩,(hr _).2 ⟨w,hw,a,by omega⟩⟩
theorem wH {α:Type}{l:List α}{k:Nat}{x:α}(h:x∈l.eraseIdx k):x∈l:=(KL l k).mem h
theorem HO.erase {n k:Nat}{w:W}(h:HO n k w){i:Nat}(hi:i<k):HO n (k-1) (zU7 i w) where
  pl:=by show (w.1.eraseIdx i).length=_;rw [gL,h.pl,if_pos hi]
  cl:=by show (w.2.2.eraseIdx i).length=_;rw [gL,h.cl,if_pos hi]
  pr x hx:=h.pr x (wH hx)
  nd:=h.nd.sublist (KL _ _)
  m0:=h.m0
  m1:=h.m1
  sp r hr:=h.sp r (wH hr)
theorem kK {α:Type}:∀ (l:List α) (i:Nat) (x:α),i<l.length→(l.getD i x::l.eraseIdx i).Perm l
  | [],i,x,h=>by simp at h
  | y::l,0,x,h=>by simp
  | y::l,i+1,x,h=>by
    simp only [List.getD_cons_succ,List.eraseIdx_cons_succ];exact (List.Perm.swap _ _ _).trans ((kK l i x (by simpa using h)).cons y)
theorem HO.at {n k:Nat}{w:W}(h:HO n k w){i:Nat}(hi:i<k):0≤gP w i∧gP w i<n∧PC (gC w i):=by
  unfold gP gC;have h1:i<w.1.length:=by rw [h.pl];exact hi
  have h2:i<w.2.2.length:=by rw [h.cl];exact hi
  simp only [List.getD,aA h1,aA h2,lO];exact ⟨(h.pr _ (aM h1)).1,(h.pr _ (aM h1)).2,h.sp _ (aM h2)⟩
theorem D8.one {n:Nat}{g:G}(h:D8 n g){k:Nat}(hc:iR g=some k):D8 n (nR g k):=by
  obtain ⟨h1,hne,hk,hs⟩:=kM hc;have hf:=h.ws _ (jS hne);have ha:=hf.at hk;refine ⟨by simp [nR],by simp [nR],?_,by simp [nR],?_,?_⟩
  · intro b hb;simp only [nR,bC] at hb;subst hb;simp only [List.getD,aA hk,lO];exact h.rg _ (aM hk)
  · intro w hw;simp only [nR,bC] at hw;subst hw;exact ⟨rfl,rfl,by intro x hx;simp at hx;subst hx;exact ⟨ha.1,ha.2.1⟩,by simp,by simp,by simp,by intro r hr;simp at hr;subst hr;exact ha.2.2⟩
  · intro w v hw hv;simp only [nR,bC] at hw hv;subst hw;subst hv;exact .refl _
theorem D8.rest {n:Nat}{g:G}(h:D8 n g){k:Nat}(hc:iR g=some k):D8 n (kD g k):=by
  obtain ⟨h1,hne,hk,hs⟩:=kM hc;have hl:(g.1.eraseIdx k).length=g.1.length-1:=by rw [gL,if_pos hk]
  have hm:∀ w,w∈(kD g k).2→∃ v,v∈g.2∧w=zU7 k v:=by
    intro w hw;obtain ⟨v,hv,rfl⟩:=bA.1 (qM hw);exact ⟨v,hv,rfl⟩
  refine ⟨?_,h.up.sublist (KL _ _),fun b hb=>h.rg b (wH hb),?_,?_,?_⟩
  · intro e;have:(g.1.eraseIdx k).length=0:=by rw [show g.1.eraseIdx k=[] from e];rfl
    omega
  · show (g.1.eraseIdx k).length≤6;have:=h.ln;omega
  · intro w hw;obtain ⟨v,hv,rfl⟩:=hm w hw;show HO n (g.1.eraseIdx k).length _;rw [hl];exact (h.ws v hv).erase hk
  · intro w v hw hv;obtain ⟨w,hw',rfl⟩:=hm w hw;obtain ⟨v,hv',rfl⟩:=hm v hv;clear hw hv;have hw:=hw';have hv:=hv';have h3:=h.same w v hw hv;have e1:=kK w.1 k 0 (by rw [(h.ws w hw).pl];exact hk)
    have e2:=kK v.1 k 0 (by rw [(h.ws v hv).pl];exact hk)
    have e3:w.1.getD k 0=v.1.getD k 0:=((hs w hw).1).trans ((hs v hv).1).symm;rw [e3] at e1;exact (List.perm_cons _).1 (e1.trans (h3.trans e2.symm))
theorem IM {n:Nat}:∀ (m:Nat){g:G},D8 n g→∀ x,x∈mD m g→D8 n x
  | 0,g,h,x,hx=>by simp [mD] at hx;subst hx;exact h
  | m+1,g,h,x,hx=>by
    unfold mD at hx;split at hx
    · simp at hx;subst hx;exact h
    · rename_i k hc;rcases bN.1 hx with rfl | hx
      · exact h.one hc
      · exact IM m (h.rest hc) x hx
theorem LV {n:Nat}{f:As}:∀ (m:Nat){g:G},D8 n g→∀ {M:Int},Sem (mD m g) f M↔K8 g f M
  | 0,g,h,M=>SQ
  | m+1,g,h,M=>by
    unfold mD;split
    · exact SQ
    · rename_i k hc;simp only [Sem,LV m (h.rest hc)];exact VX h hc
theorem VJ {n:Nat}{f:As}{l:List G}(h:∀ g,g∈l→D8 n g){M:Int}:Sem (rT l) f M↔Sem l f M:=by
  unfold rT;rw [pE (dU _ _)];exact LW fun g hg M=>LV _ (h g hg)
theorem FY {n:Nat}:∀ (m:Nat){g:G},D8 n g→g.1.length≤m→∀ x,x∈mD m g→iR x=none
  | 0,g,h,hl,x,hx=>by exact absurd (fI.1 (Nat.le_zero.1 hl)) h.ne
  | m+1,g,h,hl,x,hx=>by
    unfold mD at hx;split at hx
    · rename_i hc;simp at hx;subst hx;exact hc
    · rename_i k hc;obtain ⟨h1,hne,hk,hs⟩:=kM hc;rcases bN.1 hx with rfl | hx
      · simp [iR,nR]
      · refine FY m (h.rest hc) ?_ x hx;show (g.1.eraseIdx k).length≤m;rw [gL,if_pos hk];omega
theorem B7 {n:Nat}:∀ (m:Nat){g:G},D8 n g→((mD m g).flatMap (·.1)).Perm g.1
  | 0,g,h=>by simp [mD]
  | m+1,g,h=>by
    unfold mD;split
    · simp
    · rename_i k hc;obtain ⟨h1,hne,hk,hs⟩:=kM hc;rw [bM];exact (List.Perm.append_left _ (B7 m (h.rest hc))).trans (kK g.1 k 0 hk)
theorem zP9 {m:Nat}:∀ {g:G},g.2≠[]→∀ x,x∈mD m g→x.2≠[]:=by
  induction m with
  | zero=>intro g h x hx;simp [mD] at hx;subst hx;exact h
  | succ m ih=>
    intro g h x hx;unfold mD at hx;split at hx
    · simp at hx;subst hx;exact h
    · rename_i k hc;rcases bN.1 hx with rfl | hx
      · simp [nR]
      · refine ih ?_ x hx;show gS _≠[];rw [Ne,W4,mS];exact h
theorem MJ {g:G}(h:g.2=[]):∀ m,mD m g=[g]
  | 0=>rfl
  | m+1=>by unfold mD;rw [show iR g=none by unfold iR;rw [if_pos (.inr h)]]
theorem MK {m:Nat}:∀ {g:G}{K:Nat},1≤K→g.2.length≤K→∀ x,x∈mD m g→x.2.length≤K:=by
  induction m with
  | zero=>intro g K _ h x hx;simp [mD] at hx;subst hx;exact h
  | succ m ih=>
    intro g K h1 h x hx;unfold mD at hx;split at hx
    · simp at hx;subst hx;exact h
    · rename_i k hc;rcases bN.1 hx with rfl | hx
      · simpa [nR] using h1
      · refine ih h1 ?_ x hx;exact bG (sU _) (by rw [aX];exact h)
def upd (f:As) (a:Int) (x:Int × SP):As:=fun b=>if b=a then x else f b
def KP (f:As) (a b:Int):As:=fun x=>if x=a then f b else if x=b then f a else f x
def xX (c:Cx) (s:Ev) (x:Int × SP):(Int × SP) × Int × Bool:=
  if s.k=0 then (if x.1∈s.ids then (x,0,decide ((s.ids.length:Int)-1≤c.st)) else (x,1,decide ((s.ids.length:Int)≤c.st)))
  else if s.k=1 then
    let b:=c.bs.getD x.1.toNat (0,0,0)
    let q:=vZ b.2.2 (oA c.ks c.ls b.1) s.n c.er x.2
    ((x.1,q.1),0,q.2)
  else if s.k=2 then let q:=B5 x.2 s.n c.sl;((x.1,q.1),0,q.2)
  else if s.k=3 then ((x.1,(s.n,s.n+1)),0,xL x.2.1 x.2.2 s.n)
  else if s.k=5 then (x,0,decide (x.1=s.n))
  else (x,0,true)
theorem LR {α:Type}{l:List α}{i:Nat}(x:α) (h:i<l.length):l.set i (l.getD i x)=l:=by
  simp [List.getD,h]
theorem G1 {c:Cx}{w:W}{i:Nat}{s:Ev}(h:i<w.2.2.length) :
    kQ c w i s=((w.1,w.2.1+(xX c s (gP w i,gC w i)).2.1,w.2.2.set i (xX c s (gP w i,gC w i)).1.2),(xX c s (gP w i,gC w i)).2.2):=by
  have e:w.2.2.set i (gC w i)=w.2.2:=LR _ h;unfold kQ xX;split
  · split <;> simp [e]
  · split
    · simp [sC]
    · split
      · simp [sC]
      · split
        · simp [sC]
        · split <;> simp [e]
theorem JU {c:Cx}{s:Ev}{x:Int × SP}:(xX c s x).1.1=x.1:=by
  unfold xX
  repeat' split
  all_goals rfl
def A6 (c:Cx) (s:Ev) (f f':As) (d:Int):Prop:=
  ((xX c s (f s.a)).2.2=true∧f'=upd f s.a (xX c s (f s.a)).1∧d=(xX c s (f s.a)).2.1)∨(s.k=4∧f'=KP f s.a s.b∧d=0)
theorem uT {bs:List Int}{w:W}{f:As}(h1:w.1.length=bs.length) (h2:w.2.2.length=bs.length) :
    oV bs w f↔∀ j (hj:j<bs.length),gP w j=(f bs[j]).1∧gC w j=(f bs[j]).2:=by
  constructor
  · intro h j hj;exact ⟨CX h hj,CY h hj⟩
  · intro h;constructor
    · refine jQ (by simp [h1]) fun j hj hj'=>?_
      have:=(h j (by omega)).1
      unfold gP at this;simp only [List.getD,aA hj,lO] at this;simp [this]
    · refine jQ (by simp [h2]) fun j hj hj'=>?_
      have:=(h j (by omega)).2
      unfold gC at this;simp only [List.getD,aA hj,lO] at this;simp [this]
theorem yQ {bs:List Int}{a:Int}(ha:a∈bs):∃ h:bs.idxOf a<bs.length,bs[bs.idxOf a]=a:=by
  have h:=hC ha;exact ⟨h,List.getElem_idxOf h⟩
theorem CP {bs:List Int}(hn:bs.Nodup){i j:Nat}(hi:i<bs.length) (hj:j<bs.length) (h:bs[i]=bs[j]):i=j:=(zX5 hn).1 h
theorem fZ {α:Type}{l:List α}{i j:Nat}{x d:α}(hj:i<l.length):(l.set i x).getD j d=if j=i then x else l.getD j d:=by
  by_cases e:j=i
  · subst e;simp [List.getD,hj]
  · rw [if_neg e];simp [List.getD,iN (Ne.symm e)]
theorem zB2 {c:Cx}{n:Nat}{g:G}(ok:D8 n g){s:Ev}(ha:s.a∈g.1) (hb:s.k=4→s.b∈g.1∧s.a≠s.b){f':As}{M:Int} :
    K8 (g.1,gS (mQ c s g)) f' M↔∃ f d,A6 c s f f' d∧K8 g f (M-d):=by
  rw [W7];obtain ⟨hi,hia⟩:=yQ ha;have hnd:=ok.nd;constructor
  · rintro ⟨v,hv,hf,hm⟩;unfold mQ at hv;obtain ⟨w,hw,hv⟩:=fC.1 hv;have wo:=ok.ws w hw;have h1:=wo.pl;have h2:=wo.cl;rcases bL.1 hv with hv | hv
    · split at hv
      · rename_i hok;simp only [bC] at hv;subst hv;rw [G1 (by omega)] at hok hf hm
        simp only at hok hf hm;generalize hi':g.1.idxOf s.a=i at *;have hf':=(uT (w:=(w.1,w.2.1+(xX c s (gP w i,gC w i)).2.1,w.2.2.set i (xX c s (gP w i,gC w i)).1.2)) h1 (by simp [h2])).1 hf
        have ea:upd f' s.a (gP w i,gC w i) s.a=(gP w i,gC w i):=by unfold upd;rw [if_pos rfl]
        refine ⟨upd f' s.a (gP w i,gC w i),_,.inl ⟨by rw [ea];exact hok,?_,rfl⟩,w,hw,(uT h1 h2).2 fun j hj=>?_,by rw [ea];show w.2.1≤_;omega⟩
        · rw [ea];funext b;unfold upd;by_cases e:b=s.a
          · rw [if_pos e,e];obtain ⟨q1,q2⟩:=hf' i hi;rw [hia] at q1 q2;refine Prod.ext ?_ ?_
            · rw [JU,← q1];rfl
            · rw [← q2];unfold gC;rw [fZ (by omega),if_pos rfl]
          · rw [if_neg e,if_neg e]
        · obtain ⟨q1,q2⟩:=hf' j hj;unfold upd;by_cases e:g.1[j]=s.a
          · rw [if_pos e];have:j=i:=CP hnd hj hi (e.trans hia.symm);subst this;exact ⟨rfl,rfl⟩
          · rw [if_neg e];refine ⟨by rw [← q1];rfl,?_⟩
            rw [← q2];unfold gC;rw [fZ (by omega),if_neg]
            rintro rfl;exact e hia
      · cases hv
    · split at hv
      · rename_i hk;simp only [bC] at hv;subst hv;obtain ⟨hbm,hab⟩:=hb hk;obtain ⟨hj,hjb⟩:=yQ hbm;generalize hi':g.1.idxOf s.a=i at *;generalize hj':g.1.idxOf s.b=k at *;have hik:i≠k:=by rintro rfl;exact hab (hia.symm.trans hjb)
        have hf':=(uT (w:=pL w i k) (by simp [pL,h1]) (by simp [pL,h2])).1 hf
        refine ⟨KP f' s.a s.b,0,.inr ⟨hk,?_,rfl⟩,w,hw,(uT h1 h2).2 fun j hj0=>?_,by have:(pL w i k).2.1=w.2.1:=rfl;omega⟩
        · funext x;unfold KP;by_cases e:x=s.a
          · subst e;rw [if_pos rfl,if_neg (Ne.symm hab),if_pos rfl]
          · by_cases e':x=s.b
            · subst e';rw [if_neg e,if_pos rfl,if_pos rfl]
            · rw [if_neg e,if_neg e',if_neg e,if_neg e']
        · unfold KP;by_cases e:g.1[j]=s.a
          · rw [if_pos e];have:j=i:=CP hnd hj0 hi (e.trans hia.symm);subst this;obtain ⟨q1,q2⟩:=hf' k hj;rw [hjb] at q1 q2;rw [← q1,← q2];constructor
            · unfold gP pL;simp only;rw [fZ (by simp;omega),if_pos rfl];rfl
            · unfold gC pL;simp only;rw [fZ (by simp;omega),if_pos rfl];rfl
          · rw [if_neg e];by_cases e':g.1[j]=s.b
            · rw [if_pos e'];have:j=k:=CP hnd hj0 hj (e'.trans hjb.symm);subst this;obtain ⟨q1,q2⟩:=hf' i hi;rw [hia] at q1 q2;rw [← q1,← q2];constructor
              · unfold gP pL;simp only;rw [fZ (by simp;omega),if_neg hik,fZ (by omega),if_pos rfl];rfl
              · unfold gC pL;simp only;rw [fZ (by simp;omega),if_neg hik,fZ (by omega),if_pos rfl];rfl
            · rw [if_neg e'];have n1:j≠i:=by rintro rfl;exact e hia
              have n2:j≠k:=by rintro rfl;exact e' hjb
              obtain ⟨q1,q2⟩:=hf' j hj0;rw [← q1,← q2];constructor
              · unfold gP pL;simp only;rw [fZ (by simp;omega),if_neg n2,fZ (by omega),if_neg n1]
              · unfold gC pL;simp only;rw [fZ (by simp;omega),if_neg n2,fZ (by omega),if_neg n1]
      · cases hv
  · rintro ⟨f,d,hst,w,hw,hf,hm⟩;have wo:=ok.ws w hw;have h1:=wo.pl;have h2:=wo.cl;have hf':=(uT h1 h2).1 hf;have hxa:(gP w (g.1.idxOf s.a),gC w (g.1.idxOf s.a))=f s.a:=by
      obtain ⟨q1,q2⟩:=hf' _ hi;rw [hia] at q1 q2;exact Prod.ext q1 q2
    rcases hst with ⟨hok,rfl,rfl⟩ | ⟨hk,rfl,rfl⟩
    · refine ⟨(kQ c w (g.1.idxOf s.a) s).1,fC.2 ⟨w,hw,bL.2 (.inl ?_)⟩,?_,?_⟩
      · rw [if_pos (by rw [G1 (by omega),hxa];exact hok)];exact bC.2 rfl
      · rw [G1 (by omega),hxa]
        refine (uT (bs:=g.1) (w:=(w.1,w.2.1+(xX c s (f s.a)).2.1,w.2.2.set (g.1.idxOf s.a) (xX c s (f s.a)).1.2)) h1 (by simp [h2])).2 fun j hj=>?_
        obtain ⟨q1,q2⟩:=hf' j hj;unfold upd;by_cases e:g.1[j]=s.a
        · rw [if_pos e];have:j=g.1.idxOf s.a:=CP hnd hj hi (e.trans hia.symm);refine ⟨?_,?_⟩
          · rw [JU];show gP w j=_;rw [q1,e]
          · unfold gC;simp only;rw [fZ (by omega),if_pos this]
        · rw [if_neg e];refine ⟨q1,?_⟩;unfold gC;simp only;rw [fZ (by omega),if_neg (by rintro rfl;exact e hia)]
          exact q2
      · rw [G1 (by omega),hxa];show w.2.1+_≤_;omega
    · obtain ⟨hbm,hab⟩:=hb hk;obtain ⟨hj,hjb⟩:=yQ hbm;have hxb:gP w (g.1.idxOf s.b)=(f s.b).1∧gC w (g.1.idxOf s.b)=(f s.b).2:=by
        obtain ⟨q1,q2⟩:=hf' _ hj;rw [hjb] at q1 q2;exact ⟨q1,q2⟩
      have hxa':gP w (g.1.idxOf s.a)=(f s.a).1∧gC w (g.1.idxOf s.a)=(f s.a).2:=by rw [← hxa];exact ⟨rfl,rfl⟩
      refine ⟨pL w (g.1.idxOf s.a) (g.1.idxOf s.b),fC.2 ⟨w,hw,bL.2 (.inr (by rw [if_pos hk];exact bC.2 rfl))⟩,?_,by show w.2.1≤M;omega⟩
      generalize hi':g.1.idxOf s.a=i at *;generalize hj':g.1.idxOf s.b=k at *;have hik:i≠k:=by rintro rfl;exact hab (hia.symm.trans hjb)
      refine (uT (by simp [pL,h1]) (by simp [pL,h2])).2 fun j hj0=>?_
      unfold KP;by_cases e:g.1[j]=s.a
      · rw [if_pos e];have:j=i:=CP hnd hj0 hi (e.trans hia.symm);subst this;rw [← hxb.1,← hxb.2];constructor
        · unfold gP pL;simp only;rw [fZ (by simp;omega),if_neg hik,fZ (by omega),if_pos rfl];rfl
        · unfold gC pL;simp only;rw [fZ (by simp;omega),if_neg hik,fZ (by omega),if_pos rfl];rfl
      · rw [if_neg e];by_cases e':g.1[j]=s.b
        · rw [if_pos e'];have:j=k:=CP hnd hj0 hj (e'.trans hjb.symm);subst this;rw [← hxa'.1,← hxa'.2];constructor
          · unfold gP pL;simp only;rw [fZ (by simp;omega),if_pos rfl];rfl
          · unfold gC pL;simp only;rw [fZ (by simp;omega),if_pos rfl];rfl
        · rw [if_neg e'];have n1:j≠i:=by rintro rfl;exact e hia
          have n2:j≠k:=by rintro rfl;exact e' hjb
          obtain ⟨q1,q2⟩:=hf' j hj0;rw [← q1,← q2];constructor
          · unfold gP pL;simp only;rw [fZ (by simp;omega),if_neg n2,fZ (by omega),if_neg n1]
          · unfold gC pL;simp only;rw [fZ (by simp;omega),if_neg n2,fZ (by omega),if_neg n1]
theorem R8 {g:G}{f f':As}{M:Int}(h:∀ b,b∈g.1→f b=f' b):K8 g f M↔K8 g f' M:=by
  unfold K8 oV;rw [jX (g:=fun b=>(f' b).1) (fun b hb=>by rw [h b hb]),jX (g:=fun b=>(f' b).2) (fun b hb=>by rw [h b hb])]
theorem uA {f f':As}:∀ {gs:List G}{M:Int},(∀ g,g∈gs→∀ b,b∈g.1→f b=f' b)→(Sem gs f M↔Sem gs f' M)
  | [],M,_=>Iff.rfl
  | g::gs,M,h=>by
    simp only [Sem,R8 (h g aQ),uA (fun x hx=>h x (aJ _ hx))]
end Go.Ld
namespace Go.Proofs.YtmmmeebiobjnbaaGreat
open Go Go.Ab
attribute [local irreducible] VC AW cD aT
set_option maxHeartbeats 4000000
def E3 (m st er sl:Int):Bool:=decide (0≤min (min (min m st) er) sl)&&decide (max (max (max m st) er) sl≤1048576)
theorem YZ (m st er sl:Int):aT Tryz.prog 28 [iH m st er sl] [] (.b (E3 m st er sl)) []:=by
  refine bU T Tryz.func28 rfl rfl rfl rfl ?_
  (repeat' (first|refine wS ?_|refine wR ?_|(refine rg 0 (cC (cO rfl rfl) rfl (aV ?_)))|(refine rg 1 (gI T rfl (gI T rfl (gI T rfl (gI T rfl (vV (zT1 rfl rfl rfl rfl) (vV (iC rfl rfl) (mV ?_)))))));refine bQ rfl rfl ?_ ?_<;>(intro hb;rw [hb];(try simp only [nm] at hb);try (exfalso;omega));(all_goals first|(refine gT (fW T rfl (gT (lW T rfl (gT (fW T rfl (gT (lW T rfl (gT (fV T ?_)))))))));refine gT (lW T rfl (gT (fW T rfl (gT (lW T rfl (gT (vV (zT2 rfl rfl rfl rfl) (gT (vV (iB rfl rfl) ?_))))))))))|(iterate 10 refine gF ?_));(all_goals (refine pW rfl (aV ?_))))|refine nZ ?_));all_goals
    refine dJ (.inl rfl) rfl (nM ?_);rw [HV];simp only [E3,aN,decide_eq_true_eq]
    first | omega | (simp;omega)
theorem yK3 (l:List Int) (v:Int) (hl:l.length≤1000):aT Tryz.prog 16 [.rowE (ints l) 1,.i v] [] (.b (decide (v∈l))) []:=by
  have hlen:(ints l).length=l.length:=by simp
  refine bU T Tryz.func16 rfl rfl rfl rfl ?_
  (repeat' (first|refine wS ?_|refine wB ?_|(refine rg 0 (aV ?_))|(refine rg 1 (aV ?_))|refine nZ ?_));refine dA (X:={k:Nat // k≤l.length∧(v∈l↔v∈l.drop k)}) (fun k=>[(0,.rowE (ints l) 1),(1,.i v),(5,.i k.1)]) (fun _=>[]) (fun k=>l.length-k.1) ⟨0,by simp⟩ (gH []) ?_
  rintro ⟨k,hk,hf⟩;dsimp only;by_cases hlt:k<l.length
  · repeat' (first|refine wS ?_|refine wB ?_|refine wK ?_|refine wR ?_|(refine wC rfl (fun hb=>?_) (fun hb=>?_) <;> (((try simp only [nm] at hb);try (exfalso;omega))))|(refine rg 2 (dI rfl (qW T rfl (vV (aL rfl rfl) ?_))))|(refine rg 4 (dI rfl (vV (ix T rfl (by omega) (dR l) (mE (k:=k) (by omega))) (lW T rfl (mW rfl (vV (eD rfl rfl) ?_))))))|(refine rg 5 (aV ?_))|(refine iA 3 rfl rfl rfl (by omega) (by omega) ?_)|(refine nZ ?_))
    · refine dJ (.inl rfl) rfl (nM ?_);have:v∈l:=by rw [← hb];exact aM hlt
      simp [this]
    · refine ⟨⟨k+1,by omega,?_⟩,by dsimp only;omega,gH []⟩
      rw [hf,aY hlt];simp only [bN];exact ⟨fun h=>h.resolve_left (fun e=>hb e.symm),.inr⟩
  · (repeat' (first|refine wS ?_|refine wR ?_|refine wE ?_|(refine wC rfl (fun hb=>?_) (fun hb=>?_) <;> (((try simp only [nm] at hb);try (exfalso;omega))))|(refine rg 2 (dI rfl (qW T rfl (vV (aL rfl rfl) ?_))))|(refine rg 6 (aV ?_))|(refine nZ ?_)));refine dJ (.inl rfl) rfl (nM ?_)
    rw [dC (by omega)] at hf
    simp at hf;simp [hf]
structure vU (ks:List KD) (ls:List LT) (ps:List Int) (bs:List BX):Prop where
  len:ps.length=bs.length
  p:∀ i:Nat,i<ps.length→(i:Int)∈ps
  k:∀ (i:Nat) (h:i<ks.length),0≤ks[i].2∧ks[i].2≤1048576
  l:∀ (i:Nat) (h:i<ls.length),0≤ls[i].1∧ls[i].1<ks.length
  b:∀ (i:Nat) (h:i<bs.length),-1≤bs[i].1∧bs[i].1<ls.length∧0≤bs[i].2.1∧bs[i].2.1≤20000∧(bs[i].1 = -1→bs[i].2.1=0)∧0≤bs[i].2.2∧bs[i].2.2≤1073741824
open Classical in
noncomputable def uH (ks:List KD) (ls:List LT) (ps:List Int) (bs:List BX):Bool:=decide (vU ks ls ps bs)
theorem wX {ks:List KD}{ls:List LT}{ps:List Int}{bs:List BX}(h:¬ vU ks ls ps bs):uH ks ls ps bs=false:=by unfold uH;simp [h]
theorem PK {ks:List KD}{ls:List LT}{ps:List Int}{bs:List BX}(h:vU ks ls ps bs):uH ks ls ps bs=true:=by unfold uH;simp [h]
theorem zN1 (ks:List KD) (ls:List LT) (ps:List Int) (bs:List BX) (h1:ks.length≤1000) (h2:ls.length≤1000) (h3:ps.length≤1000) (h4:bs.length≤1000) :
    aT Tryz.prog 29 [.rowE (gE ks) 2,.rowE (iI ls) 3,.rowE (ints ps) 1,.rowE (cW bs) 3] [] (.b (uH ks ls ps bs)) []:=by
  have e1:(gE ks).length=ks.length:=by simp
  have e2:(iI ls).length=ls.length:=by simp
  have e3:(ints ps).length=ps.length:=by simp
  have e4:(cW bs).length=bs.length:=by simp
  refine bU T Tryz.func29 rfl rfl rfl rfl ?_
  repeat' (first|refine wS ?_|refine wB ?_|refine wK ?_|refine wR ?_|(refine wC rfl ?_ ?_<;>(intro hb;(try simp only [nm] at hb);try (exfalso;omega)))|(refine rg 0 (aV ?_))|(refine rg 1 (mW rfl (qW T rfl (mW rfl (qW T rfl (vV (gB rfl rfl) ?_))))))|(refine rg 2 (aV ?_))|(refine rg 3 (aV ?_))|refine nZ ?_)
  · (refine dJ (.inl rfl) rfl (nM (wX fun h=>?_).symm);have:=h.len;omega)
  have hlen:ps.length=bs.length:=by omega
  refine dA (X:={k:Nat // k≤ps.length∧∀ i:Nat,i<k→(i:Int)∈ps}) (fun k=>[(0,.rowE (gE ks) 2),(1,.rowE (iI ls) 3),(2,.rowE (ints ps) 1),(3,.rowE (cW bs) 3),(9,.i k.1)]) (fun _=>[]) (fun k=>ps.length-k.1) ⟨0,by omega,fun i hi=>by omega⟩ (gH []) ?_
  rintro ⟨k,hk,hp⟩;dsimp only;by_cases hlt:k<ps.length
  · repeat' (first|refine wS ?_|refine wB ?_|refine wK ?_|refine wR ?_|(refine wC rfl (fun hb=>?_) (fun hb=>?_) <;> (((try simp only [nm] at hb);try (exfalso;omega))))|(refine rg 4 (dI rfl (qW T rfl (vV (aL rfl rfl) ?_))))|(refine rg 6 (dI rfl (vV (by exact fQ rfl rfl (yK3 ps _ h3) rfl rfl rfl) ?_));refine vV (eH rfl) ?_)|(refine rg 7 (aV ?_))|(refine iA 5 rfl rfl rfl (by omega) (by omega) ?_)|(refine nZ ?_))
    · (refine dJ (.inl rfl) rfl (nM (wX fun h=>?_).symm);exact hb (h.p k hlt))
    · refine ⟨⟨k+1,by omega,fun i hi=>?_⟩,by dsimp only;omega,gH []⟩
      by_cases e:i=k
      · subst e;exact hb
      · exact hp i (by omega)
  have hpA:∀ i:Nat,i<ps.length→(i:Int)∈ps:=fun i hi=>hp i (by omega)
  clear hp
  (repeat' (first|refine wS ?_|refine wB ?_|refine wE ?_|(refine wC rfl ?_ ?_<;>(intro hb;(try simp only [nm] at hb);try (exfalso;omega)))|(refine rg 4 (dI rfl (qW T rfl (vV (aL rfl rfl) ?_))))|(refine rg 8 (aV ?_))|refine nZ ?_));refine dA (X:={k:Nat // k≤ks.length∧∀ (i:Nat) (h:i<ks.length),i<k→0≤ks[i].2∧ks[i].2≤1048576}) (fun k=>[(0,.rowE (gE ks) 2),(1,.rowE (iI ls) 3),(2,.rowE (ints ps) 1),(3,.rowE (cW bs) 3),(10,.i k.1)]) (fun _=>[]) (fun k=>ks.length-k.1) ⟨0,by omega,fun i _ hi=>by omega⟩ (gH []) ?_
  rintro ⟨k1,hk1,hq⟩;dsimp only;by_cases hlt1:k1<ks.length
  · (repeat' (first|refine wS ?_|refine wB ?_|refine wK ?_|refine wR ?_|refine uV rfl ?_|(refine wC rfl (fun hb=>?_) (fun hb=>?_) <;> (((try simp only [nm] at hb);try (exfalso;omega))))|(refine rg 9 (dI rfl (qW T rfl (vV (aL rfl rfl) ?_))))|(refine rg 11 (dI rfl (vV (ix T rfl (by omega) (xI ks) (F0 (k:=k1) hlt1)) (gI T rfl (vV (aL rfl rfl) (mV ?_)))));refine bQ rfl rfl (fun hb=>?_) (fun hb=>?_) <;> ((rw [hb];(try simp only [nm] at hb);try ((exfalso;omega);done)));(all_goals first|(refine gT (mW rfl (gT (mW rfl (gT (vV (ix T rfl (by omega) (xI ks) (F0 (k:=k1) hlt1)) (gT (fW T rfl (gT (lV T ?_)))))))));refine gT (vV (fA rfl rfl) ?_))|(iterate 6 refine gF ?_));(all_goals (refine pV ?_)))|(refine rg 12 (aV ?_))|(refine iA 10 rfl rfl rfl (by omega) (by omega) ?_)|(refine nZ ?_)));all_goals first
      | (refine dJ (.inl rfl) rfl (nM (wX fun h=>?_).symm);have:=h.k k1 hlt1;omega)
      | (refine ⟨⟨k1+1,by omega,fun i hi hik=>?_⟩,by dsimp only; omega,gH []⟩
         by_cases e:i=k1
         · subst e;omega
         · exact hq i hi (by omega))
  have hkA:∀ (i:Nat) (h:i<ks.length),0≤ks[i].2∧ks[i].2≤1048576:=fun i hi=>hq i hi (by omega)
  clear hq
  (repeat' (first|refine wS ?_|refine wB ?_|refine wE ?_|(refine wC rfl ?_ ?_<;>(intro hb;(try simp only [nm] at hb);try (exfalso;omega)))|(refine rg 9 (dI rfl (qW T rfl (vV (aL rfl rfl) ?_))))|(refine rg 13 (aV ?_))|refine nZ ?_));refine dA (X:={k:Nat // k≤ls.length∧∀ (i:Nat) (h:i<ls.length),i<k→0≤ls[i].1∧ls[i].1<ks.length}) (fun k=>[(0,.rowE (gE ks) 2),(1,.rowE (iI ls) 3),(2,.rowE (ints ps) 1),(3,.rowE (cW bs) 3),(11,.i k.1)]) (fun _=>[]) (fun k=>ls.length-k.1) ⟨0,by omega,fun i _ hi=>by omega⟩ (gH []) ?_
  rintro ⟨k2,hk2,hq⟩;dsimp only;by_cases hlt2:k2<ls.length
  · (repeat' (first|refine wS ?_|refine wB ?_|refine wK ?_|refine wR ?_|refine uV rfl ?_|(refine wC rfl (fun hb=>?_) (fun hb=>?_) <;> (((try simp only [nm] at hb);try (exfalso;omega))))|(refine rg 14 (dI rfl (qW T rfl (vV (aL rfl rfl) ?_))))|(refine rg 16 (dI rfl (vV (ix T rfl (by omega) (B8 ls) (M4 (k:=k2) hlt2)) (gI T rfl (vV (aL rfl rfl) (mV ?_)))));refine bQ rfl rfl (fun hb=>?_) (fun hb=>?_) <;> ((rw [hb];(try simp only [nm] at hb);try ((exfalso;omega);done)));(all_goals first|(refine gT (mW rfl (gT (mW rfl (gT (vV (ix T rfl (by omega) (B8 ls) (M4 (k:=k2) hlt2)) (gT (fW T rfl (gT (lV T ?_)))))))));refine gT (mW rfl (gT (qW T rfl (gT (vV (iC rfl rfl) ?_))))))|(iterate 8 refine gF ?_));(all_goals (refine pV ?_)))|(refine rg 17 (aV ?_))|(refine iA 15 rfl rfl rfl (by omega) (by omega) ?_)|(refine nZ ?_)));all_goals first
      | (refine dJ (.inl rfl) rfl (nM (wX fun h=>?_).symm);have:=h.l k2 hlt2;omega)
      | (refine ⟨⟨k2+1,by omega,fun i hi hik=>?_⟩,by dsimp only; omega,gH []⟩
         by_cases e:i=k2
         · subst e;omega
         · exact hq i hi (by omega))
  have hlA:∀ (i:Nat) (h:i<ls.length),0≤ls[i].1∧ls[i].1<ks.length:=fun i hi=>hq i hi (by omega)
  clear hq
  (repeat' (first|refine wS ?_|refine wB ?_|refine wE ?_|(refine wC rfl ?_ ?_<;>(intro hb;(try simp only [nm] at hb);try (exfalso;omega)))|(refine rg 14 (dI rfl (qW T rfl (vV (aL rfl rfl) ?_))))|(refine rg 18 (aV ?_))|refine nZ ?_));refine dA (X:={k:Nat // k≤bs.length∧∀ (i:Nat) (h:i<bs.length),i<k→-1≤bs[i].1∧bs[i].1<ls.length∧0≤bs[i].2.1∧bs[i].2.1≤20000∧(bs[i].1 = -1→bs[i].2.1=0)∧0≤bs[i].2.2∧bs[i].2.2≤1073741824}) (fun k=>[(0,.rowE (gE ks) 2),(1,.rowE (iI ls) 3),(2,.rowE (ints ps) 1),(3,.rowE (cW bs) 3),(12,.i k.1)]) (fun _=>[]) (fun k=>bs.length-k.1) ⟨0,by omega,fun i _ hi=>by omega⟩ (gH []) ?_
  rintro ⟨k3,hk3,hq⟩;dsimp only;by_cases hlt3:k3<bs.length
  · (repeat' (first|refine wS ?_|refine wB ?_|refine wK ?_|refine wR ?_|refine uV rfl ?_|(refine wC rfl (fun hb=>?_) (fun hb=>?_) <;> (((try simp only [nm] at hb);try (exfalso;omega))))|(refine rg 19 (dI rfl (qW T rfl (vV (aL rfl rfl) ?_))))|(refine rg 21 (dI rfl (vV (ix T rfl (by omega) (iS bs) (xP (k:=k3) hlt3)) (lW T rfl (cC (cM T rfl) rfl (bD T rfl rfl rfl rfl rfl rfl (by decide) rfl ?_))))))|(refine rg 22 (gI T rfl (vV (aL rfl rfl) (mV ?_)));refine bQ rfl rfl (fun hb=>?_) (fun hb=>?_) <;> ((rw [hb];(try simp only [nm] at hb);try ((exfalso;omega);done)));(all_goals first|(refine gT (fW T rfl (gT (lW T rfl (gT (mW rfl (gT (qW T rfl (gT (vV (iC rfl rfl) ?_))))))))))|(iterate 5 refine gF ?_));(all_goals (refine pW rfl (mV ?_)));(all_goals first|(refine gK ?_)|(refine bQ rfl rfl (fun hb=>?_) (fun hb=>?_) <;> ((rw [hb];(try simp only [nm] at hb);try ((exfalso;omega);done)))));(all_goals first|(refine gT (fW T rfl (gT (lW T rfl (gT (vV (aL rfl rfl) ?_))))))|(iterate 3 refine gF ?_));(all_goals (refine pW rfl (mV ?_)));(all_goals first|(refine gK ?_)|(refine bQ rfl rfl (fun hb=>?_) (fun hb=>?_) <;> ((rw [hb];(try simp only [nm] at hb);try ((exfalso;omega);done)))));(all_goals first|(refine gT (fW T rfl (gT (lW T rfl (gT (vV (fA rfl rfl) ?_))))))|(iterate 3 refine gF ?_));(all_goals (refine pW rfl (mV ?_)));(all_goals first|(refine gK ?_)|(refine bQ rfl rfl (fun hb=>?_) (fun hb=>?_) <;> ((rw [hb];(try simp only [nm] at hb);try ((exfalso;omega);done)))));(all_goals first|(refine gT (fW T rfl (gT (lW T rfl (gT (vV (eD rfl rfl) (gT (mV ?_))))))))|(iterate 4 refine gF ?_));(all_goals first|(refine gK ?_)|(refine bQ rfl rfl (fun hb=>?_) (fun hb=>?_) <;> ((rw [hb];(try simp only [nm] at hb);try ((exfalso;omega);done)))));(all_goals first|(refine gT (fW T rfl (gT (lW T rfl (gT (vV (gB rfl rfl) ?_))))))|((iterate 3 first|refine gF ?_|refine gU ?_)));(all_goals first|(refine gT (pV ?_))|(refine gF ?_));(all_goals (refine pW rfl (mV ?_)));(all_goals first|(refine gK ?_)|(refine bQ rfl rfl (fun hb=>?_) (fun hb=>?_) <;> ((rw [hb];(try simp only [nm] at hb);try ((exfalso;omega);done)))));(all_goals first|(refine gT (fW T rfl (gT (lW T rfl (gT (vV (aL rfl rfl) ?_))))))|(iterate 3 refine gF ?_));(all_goals (refine pW rfl (mV ?_)));(all_goals first|(refine gK ?_)|(refine bQ rfl rfl (fun hb=>?_) (fun hb=>?_) <;> ((rw [hb];(try simp only [nm] at hb);try ((exfalso;omega);done)))));(all_goals first|(refine gT (fW T rfl (gT (lW T rfl (gT (vV (fA rfl rfl) ?_))))))|(iterate 3 refine gF ?_));(all_goals (refine pV ?_)))|(refine rg 23 (aV ?_))|(refine iA 20 rfl rfl rfl (by omega) (by omega) ?_)|(refine nZ ?_)));all_goals first
      | (refine dJ (.inl rfl) rfl (nM (wX fun h=>?_).symm);have:=h.b k3 hlt3;omega)
      | (refine ⟨⟨k3+1,by omega,fun i hi hik=>?_⟩,by dsimp only; omega,gH []⟩
         by_cases e:i=k3
         · subst e;omega
         · exact hq i hi (by omega))
  (repeat' (first|refine wS ?_|refine wR ?_|refine wE ?_|(refine wC rfl ?_ ?_<;>(intro hb;(try simp only [nm] at hb);try (exfalso;omega)))|(refine rg 19 (dI rfl (qW T rfl (vV (aL rfl rfl) ?_))))|(refine rg 24 (aV ?_))|refine nZ ?_));refine dJ (.inl rfl) rfl (nM (PK ?_).symm)
  exact ⟨hlen,hpA,hkA,hlA,fun i hi=>hq i hi (by omega)⟩
abbrev wF (ks:List KD) (ls:List LT) (ps:List Int) (bs:List BX):AV:=.agg [.rowE (gE ks) 2,.rowE (iI ls) 3,.rowE (ints ps) 1,.rowE (cW bs) 3]
def yS3 (ks:List KD) (ls:List LT) (ps:List Int) (bs:List BX):Prop:=1≤ps.length∧ps.length≤8∧bs.length≤8∧ks.length≤10∧ls.length≤10
theorem yE0 {ks:List KD}{ls:List LT}{ps:List Int}{bs:List BX}(h:yS3 ks ls ps bs) (ht:uH ks ls ps bs=true):zL7 ks ls ps bs:=by
  have ht:vU ks ls ps bs:=by
    unfold uH at ht;simpa using ht
  obtain ⟨h1,h2,h3,h4,h5⟩:=h;exact ⟨h1,h2,ht.len,h4,h5,ht.k,ht.l,fun i hi=>CF ps.length ps rfl ht.p _ (aM hi),ht.b⟩
theorem VH {m st er sl:Int}(h:E3 m st er sl=true):mH m st er sl:=by
  simp only [E3,aN,decide_eq_true_eq] at h;unfold mH;omega
theorem A9 {n f t:Int}(h:f≤n∧n≤t):aT Tryz.prog 40 [.i n,.i f,.i t] [] (.b true) []:=by
  have:=pD n f t
  rwa [show jN n f t=true by simp [jN,h]] at this
theorem JY {l:List Int}{n:Int}{i:Nat}(h:i<l.length) (hn:¬ Z3 l n i):JZ l n=false:=by
  unfold JZ;simp only [decide_eq_false_iff_not];exact fun hh=>hn (hh i h)
theorem DS {l:List Int}{n:Int}(h:∀ i,i<l.length→Z3 l n i):JZ l n=true:=by
  unfold JZ;simp only [decide_eq_true_eq];exact h
theorem TV {l:List Int}{k:Nat}(h:k<l.length):l.getD k 0=l[k]:=by simp [List.getD,h]
theorem HJ (l:List Int) (n:Int) (hl:l.length≤9223372036854775807) (hn:0≤n∧n≤1000):aT Tryz.prog 41 [.rowE (ints l) 1,.i n] [] (.b (JZ l n)) []:=by
  have hlen:(ints l).length=l.length:=by simp
  refine bU T Tryz.func41 rfl rfl rfl rfl ?_
  (repeat' (first|refine wS ?_|refine wB ?_|(refine rg 0 (aV ?_))|(refine rg 1 (mW rfl (qW T rfl (mV ?_))))|refine nZ ?_));refine dA (X:={k:Nat // k≤l.length∧∀ i,i<k→Z3 l n i}) (fun k=>[(0,.rowE (ints l) 1),(1,.i n),(7,.rowE (ints l) 1),(8,.i (ints l).length),(9,.i k.1)]) (fun _=>[]) (fun k=>l.length-k.1) ⟨0,by omega,fun i hi=>by omega⟩ (gH []) ?_
  rintro ⟨k,hk,hq⟩;dsimp only;by_cases hlt:k<l.length
  · have hg:=TV hlt;cases hw:jN l[k] 0 (n-1)
    · have c:=hw▸pD l[k] 0 (n-1);have hno:¬ Z3 l n k:=fun h=>by
        unfold Z3 at h;rw [hg] at h;rw [show jN l[k] 0 (n-1)=true by simp [jN];omega] at hw
        cases hw
      (repeat' (first|refine wS ?_|refine wB ?_|refine wK ?_|refine wR ?_|refine wT ?_|(refine wC rfl ?_ ?_<;>(intro hb;(try simp only [nm] at hb);try (exfalso;omega)))|(refine rg 2 (vV (aL rfl rfl) ?_))|(refine rg 3 (mW rfl (vV (ix T rfl (by omega) (dR l) (mE (k:=k) hlt)) (lW T rfl (sG ?_)))))|(refine rg 4 (dI rfl (vV (cT rfl rfl (by omega) (by omega)) (vV (kC (c)) (vV (eH rfl) (mV ?_)))));(iterate 3 refine gF ?_);(iterate 7 refine gU ?_);refine gF (pV ?_))|(refine rg 5 (aV ?_))|refine nZ ?_));exact dJ (.inl rfl) rfl (nM (JY hlt hno).symm)
    · have c:=hw▸pD l[k] 0 (n-1);simp only [jN,aN,decide_eq_true_eq] at hw;by_cases hk0:0<k
      · have hlt':k-1<l.length:=by omega
        have hg':=TV hlt';have hc':(ints l)[((k:Int)-1).toNat]? = some [AV.i l[k-1]]:=by rw [show ((k:Int)-1).toNat=k-1 by omega];exact mE hlt'
        (repeat' (first|refine wS ?_|refine wB ?_|refine wK ?_|refine wR ?_|(refine wC rfl ?_ ?_<;>(intro hb;(try simp only [nm] at hb);try (exfalso;omega)))|(refine rg 2 (vV (aL rfl rfl) ?_))|(refine rg 3 (mW rfl (vV (ix T rfl (by omega) (dR l) (mE (k:=k) hlt)) (lW T rfl (sG ?_)))))|(refine rg 4 (dI rfl (vV (cT rfl rfl (by omega) (by omega)) (vV (kC (c)) (vV (eH rfl) (mW rfl (yN rfl (yV (fA rfl rfl) (yM ?_))))))));refine bQ rfl rfl ?_ ?_<;>(intro hb;rw [hb];(try simp only [nm] at hb);try (exfalso;omega));(all_goals (refine yN rfl (yN rfl (yN rfl (yV (cT rfl rfl (by omega) (by omega)) (yV (ix T rfl (by omega) (dR l) hc') (yO T rfl (yV (iB rfl rfl) (gT (pW rfl (pV ?_))))))))))))|(refine rg 5 (aV ?_))|(refine rg 6 (vV (cE rfl rfl (by omega) (by omega)) (mV ?_)))|refine nZ ?_));all_goals first
          | (exfalso;omega)
          | (refine dJ (.inl rfl) rfl (nM (JY hlt (fun h=>?_)).symm);unfold Z3 at h;rw [hg,hg'] at h;omega)
          | (refine ⟨⟨k+1,by omega,fun i hi=>?_⟩,by dsimp only; omega,gH []⟩
             by_cases e:i=k
             · subst e;unfold Z3;rw [hg,hg'];omega
             · exact hq i (by omega))
      · obtain rfl:k=0:=by omega
        (repeat' (first|refine wS ?_|refine wB ?_|refine wK ?_|refine wU ?_|(refine wC rfl ?_ ?_<;>(intro hb;(try simp only [nm] at hb);try (exfalso;omega)))|(refine rg 2 (vV (aL rfl rfl) ?_))|(refine rg 3 (mW rfl (vV (ix T rfl (by omega) (dR l) (mE (k:=0) hlt)) (lW T rfl (sG ?_)))))|(refine rg 4 (dI rfl (vV (cT rfl rfl (by omega) (by omega)) (vV (kC (c)) (vV (eH rfl) (mW rfl (yN rfl (yV (fA rfl rfl) (yM ?_))))))));(iterate 7 refine gF ?_);refine gT (pW rfl (pV ?_)))|(refine rg 6 (vV (cE rfl rfl (by omega) (by omega)) (mV ?_)))|refine nZ ?_));all_goals first
          | (exfalso;omega)
          | (refine ⟨⟨1,by omega,fun i hi=>?_⟩,by dsimp only; omega,gH []⟩
             obtain rfl:i=0:=by omega
             unfold Z3;rw [hg];omega)
  · (repeat' (first|refine wS ?_|refine wR ?_|refine wE ?_|(refine wC rfl (fun hb=>?_) (fun hb=>?_) <;> (((try simp only [nm] at hb);try (exfalso;omega))))|(refine rg 2 (vV (aL rfl rfl) ?_))|(refine rg 7 (aV ?_))|(refine nZ ?_)));exact dJ (.inl rfl) rfl (nM (DS fun i hi=>hq i (by omega)).symm)
theorem bJ (l:List Int):∀ e,e∈ints l→AV.idfL e=true:=by
  intro e he;obtain ⟨i,_,rfl⟩:=bA.1 he;rfl
theorem qP (l:List BX):∀ e,e∈cW l→AV.idfL e=true:=by
  intro e he;obtain ⟨i,_,rfl⟩:=bA.1 he;rfl
theorem K0 (l:List Int) (h0:0<l.length) (hl:l.length≤1000):aT Tryz.prog 45 [.rowE (ints l) 1] [] (.sl 0 0 l.length 1) [.arr (ints l) 1]:=by
  refine bU T Tryz.func45 rfl rfl rfl rfl ?_
  repeat' (first|refine wS ?_|refine wK ?_|refine wR ?_|refine wU ?_|(refine rg 0 (aV ?_))|(refine rg 1 (mW rfl (vV (N6 T rfl rfl rfl (by simpa using h0)) ?_)))|(refine rg 3 (cC (by exact bE T rfl rfl (by decide) (by decide) rfl rfl rfl) rfl ?_);refine mW rfl (fS T rfl rfl rfl rfl rfl rfl (by simp) (iK.row (dR l)) (C1 l) (by simp;omega) (by simp;omega) rfl ?_);refine aV ?_)|refine nZ ?_)
  simp only [List.take_nil,List.drop_nil,List.nil_append,Nat.zero_add,aX,SC,jM,kG];exact ⟨.inl rfl,[1],_,rfl,rfl,rfl,⟨.inr (aC rfl rfl (bJ l)),trivial⟩,by decide,R9⟩
theorem C9 (l:List BX) (h0:0<l.length) (hl:l.length≤1000):aT Tryz.prog 32 [.rowE (cW l) 3] [] (.sl 0 0 l.length 3) [.arr (cW l) 3]:=by
  refine bU T Tryz.func32 rfl rfl rfl rfl ?_
  repeat' (first|refine wS ?_|refine wK ?_|refine wR ?_|refine wU ?_|(refine rg 0 (aV ?_))|(refine rg 1 (mW rfl (vV (N6 T rfl rfl rfl (by simpa using h0)) ?_)))|(refine rg 3 (cC (by exact bE T rfl rfl (by decide) (by decide) rfl rfl rfl) rfl ?_);refine mW rfl (fS T rfl rfl rfl rfl rfl rfl (by simp) (iK.row (iS l)) (XK l) (by simp;omega) (by simp;omega) rfl ?_);refine aV ?_)|refine nZ ?_)
  simp only [List.take_nil,List.drop_nil,List.nil_append,Nat.zero_add,aX,SC,jM,kG];exact ⟨.inl rfl,[1],_,rfl,rfl,rfl,⟨.inr (aC rfl rfl (qP l)),trivial⟩,by decide,R9⟩
section
variable {ks:List KD}{ls:List LT}{ps:List Int}{bs:List BX}{m st er sl k a b n id lot ct ta done:Int}{ids:List Int}{M:Int}
theorem OK (f:zL7 ks ls ps bs) (ha:0≤a) (hid:ps[a.toNat]? = some id) (hbx:bs[id.toNat]? = some (lot,ct,ta)) (hi0:0≤id){ok cn:Bool}(hno:ok=false∨ok=true∧cn=false)
    (hag:aT Tryz.prog 19 [iH m st er sl,.rowE (gE ks) 2,.rowE (iI ls) 3,.rowE (ints ps) 1,.rowE (cW bs) 3,oW k a b n ids] [] (.tup [.i M,.b ok]) [])
    (hcan:aT Tryz.prog 44 [iH m st er sl,.agg [.i lot,.i ct,.i ta],oW k a b n ids,.i done] [] (.b cn) []) :
    aT Tryz.prog 20 [iH m st er sl,.rowE (gE ks) 2,.rowE (iI ls) 3,.rowE (ints ps) 1,.rowE (cW bs) 3,oW k a b n ids,.i done] [] (.tup [.nils,.nils,.b false]) []:=by
  have hc1:(ints ps)[a.toNat]? = some [AV.i id]:=by simp [hid]
  have hc2:(cW bs)[id.toNat]? = some [AV.i lot,AV.i ct,AV.i ta]:=by simp [hbx]
  rcases hno with rfl | ⟨rfl,rfl⟩
  all_goals
    refine bU T Tryz.func20 rfl rfl rfl rfl ?_
    (repeat' (first|refine wS ?_|refine wR ?_|refine wT ?_|(refine rg 0 (cC (cO rfl rfl) rfl (cC (cO rfl rfl) rfl (zK5 rfl (aV ?_)))))|(refine rg 1 (mW rfl (gI T rfl (vV (ix T rfl (by omega) (dR ps) hc1) (lW T rfl (aV ?_))))))|(refine rg 2 (lW T rfl (dI rfl (dI rfl (lW T rfl (vV (kC (hag)) (mW rfl (xW rfl (xW rfl (sG ?_))))))))))|(refine bV (id:=3) 95 yT6 (rM 37 13) yT7 cK rfl (by decide +kernel) (dN rfl (dV rfl (eH rfl) (dM ?_)));(all_goals first|(refine tL T ?_)|(refine dG ?_));(all_goals first|(refine tM ?_)|(refine dG ?_));(all_goals first|(refine tM ?_)|(refine dG ?_));(all_goals first|(refine dT rfl (ix T rfl (by omega) (iS bs) hc2) ?_)|(refine dG ?_));(all_goals first|(refine tL T ?_)|(refine dG ?_));(all_goals first|(refine tL T ?_)|(refine dG ?_));(all_goals first|(refine tM ?_)|(refine dG ?_));(all_goals first|(refine dT rfl (kC (hcan)) ?_)|(refine dG ?_));(all_goals first|(refine dT rfl (eH rfl) ?_)|(refine dG ?_));(all_goals (refine dV rfl (by first|exact gG rfl rfl|exact gJ rfl rfl) ?_;refine dE ?_)))|(refine rg 4 (zK5 rfl (aV ?_)))|refine nZ ?_));exact rQ
theorem RO (f:zL7 ks ls ps bs) (ha:0≤a) (hid:ps[a.toNat]? = some id) (hbx:bs[id.toNat]? = some (lot,ct,ta)) (hi0:0≤id) (hk2:k≠2) (hk4:¬ (k=4∧done=1))
    (hag:aT Tryz.prog 19 [iH m st er sl,.rowE (gE ks) 2,.rowE (iI ls) 3,.rowE (ints ps) 1,.rowE (cW bs) 3,oW k a b n ids] [] (.tup [.i M,.b true]) [])
    (hcan:aT Tryz.prog 44 [iH m st er sl,.agg [.i lot,.i ct,.i ta],oW k a b n ids,.i done] [] (.b true) []) :
    aT Tryz.prog 20 [iH m st er sl,.rowE (gE ks) 2,.rowE (iI ls) 3,.rowE (ints ps) 1,.rowE (cW bs) 3,oW k a b n ids,.i done] [] (.tup [.sl 0 0 ps.length 1,.sl 1 0 bs.length 3,.b true]) [.arr (ints ps) 1,.arr (cW bs) 3]:=by
  have hc1:(ints ps)[a.toNat]? = some [AV.i id]:=by simp [hid]
  have hc2:(cW bs)[id.toNat]? = some [AV.i lot,AV.i ct,AV.i ta]:=by simp [hbx]
  have hn1:=f.n1;have hn8:=f.n8;have hle:=f.len;have cl1:=K0 ps (by omega) (by omega)
  have cl2:=C9 bs (by omega) (by omega)
  refine bU T Tryz.func20 rfl rfl rfl rfl ?_
  (repeat' (first|refine wS ?_|refine wB ?_|refine wK ?_|refine wR ?_|refine wU ?_|(refine wC rfl ?_ ?_<;>(intro hb;(try simp only [nm] at hb);try (exfalso;omega)))|(refine rg 0 (cC (cO rfl rfl) rfl (cC (cO rfl rfl) rfl (zK5 rfl (aV ?_)))))|(refine rg 1 (mW rfl (gI T rfl (vV (ix T rfl (by omega) (dR ps) hc1) (lW T rfl (aV ?_))))))|(refine rg 2 (lW T rfl (dI rfl (dI rfl (lW T rfl (vV (kC (hag)) (mW rfl (xW rfl (xW rfl (sG ?_))))))))))|(refine bV (id:=3) 95 yT6 (rM 37 13) yT7 cK rfl (by decide +kernel) (dN rfl (dV rfl (eH rfl) (dN rfl (tO T rfl (tN rfl (tN rfl (dT rfl (ix T rfl (by omega) (iS bs) hc2) (tO T rfl (tL T ?_)))))))));refine tN rfl (dT rfl (kC (hcan)) (dT rfl (eH rfl) (dV rfl (gJ rfl rfl) (dE ?_)))))|(refine rg 5 (mW rfl (cC (by exact fN rfl rfl cl1 (.inr ⟨rfl,rfl,by simp⟩)) rfl ?_));refine mW rfl (cC (by exact fN rfl rfl cl2 (.inr ⟨rfl,rfl,by simp⟩)) rfl ?_);refine sG ?_)|(refine rg 6 (gI T rfl (vV (eD rfl rfl) (aV ?_))))|(refine rg 8 (gI T rfl (vV (eD rfl rfl) (mV ?_)));refine bQ rfl rfl ?_ ?_<;>(intro hb;rw [hb];(try simp only [nm] at hb);try (exfalso;omega));(all_goals first|(refine gT (mW rfl (gT (vV (eD rfl rfl) ?_))))|(iterate 2 refine gF ?_));(all_goals (refine pW rfl (aV ?_))))|(refine rg 10 (dI rfl (zK5 rfl (aV ?_))))|refine nZ ?_));all_goals exact ⟨.inl rfl,[2,3],_,rfl,rfl,rfl,⟨.inr (aC rfl (bB _ (bJ ps)) (bJ ps)),.inr (aC rfl (bB _ (qP bs)) (qP bs)),trivial⟩,by decide,R9⟩
theorem RP (f:zL7 ks ls ps bs) (ha:0≤a) (hid:ps[a.toNat]? = some id) (hbx:bs[id.toNat]? = some (lot,ct,ta)) (hi0:0≤id) (hk2:k=2) (hd:0≤done∧done≤ct)
    (hag:aT Tryz.prog 19 [iH m st er sl,.rowE (gE ks) 2,.rowE (iI ls) 3,.rowE (ints ps) 1,.rowE (cW bs) 3,oW k a b n ids] [] (.tup [.i M,.b true]) [])
    (hcan:aT Tryz.prog 44 [iH m st er sl,.agg [.i lot,.i ct,.i ta],oW k a b n ids,.i done] [] (.b true) []) :
    aT Tryz.prog 20 [iH m st er sl,.rowE (gE ks) 2,.rowE (iI ls) 3,.rowE (ints ps) 1,.rowE (cW bs) 3,oW k a b n ids,.i done] [] (.tup [.sl 0 0 ps.length 1,.sl 1 0 bs.length 3,.b true]) [.arr (ints ps) 1,.arr (cW (bs.set id.toNat (lot,ct-done,ta))) 3]:=by
  have hc1:(ints ps)[a.toNat]? = some [AV.i id]:=by simp [hid]
  have hc2:(cW bs)[id.toNat]? = some [AV.i lot,AV.i ct,AV.i ta]:=by simp [hbx]
  obtain ⟨hy1,hy2⟩:=aB.1 hbx;have hb0:=f.b _ hy1;rw [hy2] at hb0;simp only at hb0;have hbl:(cW bs).length=bs.length:=by simp
  have hB:∀ θ,((cW bs).map (AV.mapL θ))[0+id.toNat]? = some [AV.i lot,AV.i ct,AV.i ta]:=fun θ=>by rw [bB θ (qP bs),Nat.zero_add];exact hc2
  have hS:∀ θ,((cW bs).map (AV.mapL θ)).set (0+id.toNat) [AV.i lot,AV.i (ct-done),AV.i ta]=cW (bs.set id.toNat (lot,ct-done,ta)):=fun θ=>by rw [bB θ (qP bs),Nat.zero_add];simp [oK]
  have hn1:=f.n1;have hn8:=f.n8;have hle:=f.len;have cl1:=K0 ps (by omega) (by omega)
  have cl2:=C9 bs (by omega) (by omega)
  refine bU T Tryz.func20 rfl rfl rfl rfl ?_
  (repeat' (first|refine wS ?_|refine wB ?_|refine wK ?_|refine wR ?_|refine wU ?_|(refine wC rfl ?_ ?_<;>(intro hb;(try simp only [nm] at hb);try (exfalso;omega)))|(refine rg 0 (cC (cO rfl rfl) rfl (cC (cO rfl rfl) rfl (zK5 rfl (aV ?_)))))|(refine rg 1 (mW rfl (fW T rfl (vV (aK T rfl rfl rfl rfl) (vV (ix T rfl (by omega) (dR ps) hc1) (vV (aK T rfl rfl rfl rfl) (aV ?_)))))))|(refine rg 2 (vV (aK T rfl rfl rfl rfl) (dI rfl (dI rfl (vV (aK T rfl rfl rfl rfl) (vV (kC (hag)) (mW rfl (xW rfl (xW rfl (sG ?_))))))))))|(refine bV (id:=3) 95 yT6 (rM 37 13) yT7 cK rfl (by decide +kernel) (dN rfl (dV rfl (eH rfl) (dN rfl (tO T rfl (tN rfl (tN rfl (dT rfl (ix T rfl (by omega) (iS bs) hc2) (tO T rfl (tL T ?_)))))))));refine tN rfl (dT rfl (kC (hcan)) (dT rfl (eH rfl) (dV rfl (gJ rfl rfl) (dE ?_)))))|(refine rg 5 (mW rfl (cC (by exact fN rfl rfl cl1 (.inr ⟨rfl,rfl,by simp⟩)) rfl ?_));refine mW rfl (cC (by exact fN rfl rfl cl2 (.inr ⟨rfl,rfl,by simp⟩)) rfl ?_);refine sG ?_)|(refine rg 6 (fW T rfl (vV (aK T rfl rfl rfl rfl) (vV (eD rfl rfl) (aV ?_)))))|(refine rg 7 (dI rfl (vV (by exact aI T rfl rfl rfl rfl rfl (by omega) (by omega)) ?_));refine fW T rfl (vV (by exact aK T rfl rfl (bF rfl (hB _)) rfl) ?_);refine mW rfl (vV (cT rfl rfl (by omega) (by omega)) (vV (by exact aI T rfl rfl rfl rfl rfl (by omega) (by omega)) ?_));refine fW T rfl (bD T rfl rfl rfl rfl rfl rfl (by decide) (lR rfl (hB _) rfl) ?_))|(refine rg 10 (dI rfl (zK5 rfl (aV ?_))))|refine nZ ?_));all_goals first | (exfalso;omega) | exact ⟨.inl rfl,[2,3],_,rfl,rfl,rfl,⟨.inr (aC rfl (bB _ (bJ ps)) (bJ ps)),.inr (aC rfl (hS _) (qP _)),trivial⟩,by decide,R9⟩
end
section
variable {P:Program}{env:eE}{h:Hp}{d:Option Nat}{ty:TypeId}{pos:String}{af:Array Edge}{g:Option (Nat × Bool)}
end
section
variable {ks:List KD}{ls:List LT}{ps:List Int}{bs:List BX}{m st er sl k a b n id lot ct ta done:Int}{ids:List Int}{M:Int}
theorem RN (f:zL7 ks ls ps bs) (ha:0≤a) (hid:ps[a.toNat]? = some id) (hbx:bs[id.toNat]? = some (lot,ct,ta)) (hi0:0≤id) (hk4:k=4) (hd:done=1){idb:Int}(hbb:0≤b) (hab:a≠b) (hidb:ps[b.toNat]? = some idb)
    (hag:aT Tryz.prog 19 [iH m st er sl,.rowE (gE ks) 2,.rowE (iI ls) 3,.rowE (ints ps) 1,.rowE (cW bs) 3,oW k a b n ids] [] (.tup [.i M,.b true]) [])
    (hcan:aT Tryz.prog 44 [iH m st er sl,.agg [.i lot,.i ct,.i ta],oW k a b n ids,.i done] [] (.b true) []) :
    aT Tryz.prog 20 [iH m st er sl,.rowE (gE ks) 2,.rowE (iI ls) 3,.rowE (ints ps) 1,.rowE (cW bs) 3,oW k a b n ids,.i done] [] (.tup [.sl 0 0 ps.length 1,.sl 1 0 bs.length 3,.b true]) [.arr (ints ((ps.set a.toNat idb).set b.toNat id)) 1,.arr (cW bs) 3]:=by
  have hc1:(ints ps)[a.toNat]? = some [AV.i id]:=by simp [hid]
  have hc2:(cW bs)[id.toNat]? = some [AV.i lot,AV.i ct,AV.i ta]:=by simp [hbx]
  obtain ⟨hx1,_⟩:=aB.1 hid;obtain ⟨hz1,_⟩:=aB.1 hidb;have hpl:(ints ps).length=ps.length:=by simp
  have hA:∀ θ,((ints ps).map (AV.mapL θ))[0+a.toNat]? = some [AV.i id]:=fun θ=>by rw [bB θ (bJ ps),Nat.zero_add];exact hc1
  have hB:∀ θ,((ints ps).map (AV.mapL θ))[0+b.toNat]? = some [AV.i idb]:=fun θ=>by rw [bB θ (bJ ps),Nat.zero_add];simp [hidb]
  have hB2:∀ θ x,(((ints ps).map (AV.mapL θ)).set (0+a.toNat) x)[0+b.toNat]? = some [AV.i idb]:=fun θ x=>by rw [iN (by omega)];exact hB θ
  have hS:∀ θ,(((ints ps).map (AV.mapL θ)).set (0+a.toNat) [AV.i idb]).set (0+b.toNat) [AV.i id]=ints ((ps.set a.toNat idb).set b.toNat id):=fun θ=>by rw [bB θ (bJ ps),Nat.zero_add,Nat.zero_add];simp [oK]
  have hn1:=f.n1;have hn8:=f.n8;have hle:=f.len;have cl1:=K0 ps (by omega) (by omega)
  have cl2:=C9 bs (by omega) (by omega)
  refine bU T Tryz.func20 rfl rfl rfl rfl ?_
  (repeat' (first|refine wS ?_|refine wB ?_|refine wK ?_|refine wR ?_|refine wU ?_|(refine wC rfl ?_ ?_<;>(intro hb;(try simp only [nm] at hb);try (exfalso;omega)))|(refine rg 0 (cC (cO rfl rfl) rfl (cC (cO rfl rfl) rfl (zK5 rfl (aV ?_)))))|(refine rg 1 (mW rfl (fW T rfl (vV (aK T rfl rfl rfl rfl) (vV (ix T rfl (by omega) (dR ps) hc1) (vV (aK T rfl rfl rfl rfl) (aV ?_)))))))|(refine rg 2 (vV (aK T rfl rfl rfl rfl) (dI rfl (dI rfl (vV (aK T rfl rfl rfl rfl) (vV (kC (hag)) (mW rfl (xW rfl (xW rfl (sG ?_))))))))))|(refine bV (id:=3) 95 yT6 (rM 37 13) yT7 cK rfl (by decide +kernel) (dN rfl (dV rfl (eH rfl) (dN rfl (tO T rfl (tN rfl (tN rfl (dT rfl (ix T rfl (by omega) (iS bs) hc2) (tO T rfl (tL T ?_)))))))));refine tN rfl (dT rfl (kC (hcan)) (dT rfl (eH rfl) (dV rfl (gJ rfl rfl) (dE ?_)))))|(refine rg 5 (mW rfl (cC (by exact fN rfl rfl cl1 (.inr ⟨rfl,rfl,by simp⟩)) rfl ?_));refine mW rfl (cC (by exact fN rfl rfl cl2 (.inr ⟨rfl,rfl,by simp⟩)) rfl ?_);refine sG ?_)|(refine rg 6 (fW T rfl (vV (aK T rfl rfl rfl rfl) (vV (eD rfl rfl) (aV ?_)))))|(refine rg 8 (fW T rfl (vV (aK T rfl rfl rfl rfl) (vV (eD rfl rfl) (mV ?_))));refine bQ rfl rfl ?_ ?_<;>(intro hb;rw [hb];(try simp only [nm] at hb);try (exfalso;omega));(all_goals (refine yN rfl (yV (eD rfl rfl) (pW rfl (aV ?_))))))|(refine nQ (id:=9) 95 [[],[],[1],[],[],[4],[],[],[7],[6,7,8],rM 6 4,[],[],[12],[11,12,13],rM 11 4,[0,1,2,6,7,8,9,10,11,12,13,14,15],[0,1,2,6,7,8,9,10,11,12,13,14,15,16]] (rM 75 17) [[],[75],[75],[75,76,77],rM 75 4,rM 75 4,rM 75 6,rM 75 7,rM 75 7,rM 75 6,rM 75 6,rM 75 11,rM 75 12,rM 75 12,rM 75 11,rM 75 11,[78,79,80],[78,79,80]] [(17,2)] cK rfl (by decide +kernel) (cP rfl rfl rfl rfl (by exact bR rfl) ?_);refine cP rfl rfl rfl rfl (by exact bI T rfl rfl rfl) ?_;refine cP rfl rfl rfl rfl (by exact aK T rfl rfl rfl rfl) ?_;refine cP rfl rfl rfl rfl (by exact bR rfl) ?_;refine cP rfl rfl rfl rfl (by exact bI T rfl rfl rfl) ?_;refine cP rfl rfl rfl rfl (by exact aK T rfl rfl rfl rfl) ?_;refine cP rfl rfl rfl rfl (by exact bR rfl) ?_;refine cP rfl rfl rfl rfl (by exact bI T rfl rfl rfl) ?_;refine cP rfl rfl rfl rfl (by exact aK T rfl rfl rfl rfl) ?_;refine cP rfl rfl rfl rfl (by exact aI T rfl rfl rfl rfl rfl (by omega) (by omega)) ?_;refine cP rfl rfl rfl rfl (by exact aK T rfl rfl (bF rfl (hB _)) rfl) ?_;refine cP rfl rfl rfl rfl (by exact bR rfl) ?_;refine cP rfl rfl rfl rfl (by exact bI T rfl rfl rfl) ?_;refine cP rfl rfl rfl rfl (by exact aK T rfl rfl rfl rfl) ?_;refine cP rfl rfl rfl rfl (by exact aI T rfl rfl rfl rfl rfl (by omega) (by omega)) ?_;refine cP rfl rfl rfl rfl (by exact aK T rfl rfl (bF rfl (hA _)) rfl) ?_;refine cP rfl rfl rfl rfl (by exact aI T rfl rfl rfl rfl rfl (by omega) (by omega)) ?_;refine wL rfl rfl rfl rfl (aH rfl) T rfl rfl rfl rfl rfl rfl (by decide) (vE rfl (hA _) rfl) ?_;refine sO rfl rfl rfl (by exact rfl) ?_;refine vV (by exact aI T rfl rfl rfl rfl rfl (by omega) (by omega)) ?_;refine bD T rfl rfl rfl rfl rfl rfl (by decide) (lR rfl (hB2 _ _) rfl) ?_)|(refine rg 10 (dI rfl (zK5 rfl (aV ?_))))|refine nZ ?_));all_goals first | (exfalso;omega) | exact ⟨.inl rfl,[2,3],_,rfl,rfl,rfl,⟨.inr (aC rfl (hS _) (bJ _)),.inr (aC rfl (bB _ (qP bs)) (qP bs)),trivial⟩,by decide,R9⟩
end
end Go.Proofs.YtmmmeebiobjnbaaGreat
namespace Go.Proofs.YtmmmeebiobjnbaaGreat
open Go Go.Ab Go.Shelf Go.Proofs
shelf_lay Lays.n189 Nm 189 at Tryz as laysSort
theorem PM (l:List Int) (hl:l.length≤17592186043904):aT Tryz.prog 52 [.sl 0 0 l.length 1] [.arr (ints l) 1] (.tup []) [.arr (ints (jD l)) 1]:=
  RT ⟨_,Tryz.func52,by kernel_rfl,by kernel_rfl⟩ (fun blk off cap zs w h1 h2 h3=>Any.slices_Sort_int laysSort blk off cap zs w h1 h2 h3) (fun p cap w=>Any.slices_Sort_int_none laysSort p cap w) l hl
end Go.Proofs.YtmmmeebiobjnbaaGreat
namespace Go.Proofs.YtmmmeebiobjnbaaGreat
open Go Go.Ab
attribute [local irreducible] VC AW cD aT AY VY EJ
set_option maxHeartbeats 4000000
theorem JN (l:List Int) (hl:l.length≤17592186043904):aT Tryz.prog 45 [.rowE (ints l) 1] [] (.sl 0 0 l.length 1) [.arr (ints l) 1]:=by
  have hll:(ints l).length=l.length:=by simp
  refine bU T Tryz.func45 rfl rfl rfl rfl ?_
  repeat' (first|refine wS ?_|refine wK ?_|refine wT ?_|refine wU ?_|(refine rg 0 (aV ?_))|(refine rg 1 (mV ?_);refine uG T rfl rfl rfl rfl fun b hb=>?_;cases b)|refine nZ ?_)
  · (repeat' (first|refine wR ?_|(refine rg 3 (cC (by exact bE T rfl rfl (by decide) (by decide) rfl rfl rfl) rfl ?_);refine mW rfl (fS T rfl rfl rfl rfl rfl rfl (by decide) (.row (dR l)) (C1 l) (by simp;omega) (by simp;omega) rfl ?_);refine aV ?_)|(refine nZ ?_)));exact ⟨.inl rfl,[1],_,rfl,(by show AV.sl 1 0 (0+(ints l).length) 1=AV.sl 1 0 l.length 1;simp),rfl,⟨.inr (aC rfl rfl (bJ _)),trivial⟩,by decide,R9⟩
  · have hl0:l=[]:=fI.1 (Classical.byContradiction fun h=>by have:=hb (by omega);cases this)
    subst hl0
    (repeat' (first|refine wR ?_|(refine rg 2 (vV (dK rfl) (nY 2 1 rfl (by decide) ?_)))|refine nZ ?_));exact ⟨.inl rfl,[0],_,rfl,rfl,rfl,⟨.inr (aC rfl rfl (bJ _)),trivial⟩,by decide,R9⟩
abbrev zM4 (l:List Int):AV:=.clo (.func 107) [] [.pr [.rowE (ints l) 1] 0]
theorem BB (l:List Int):aT Tryz.prog 71 [.rowE (ints l) 1] [] (zM4 l) []:=by
  refine RW rfl ?_;refine bU T Tryz.func71 rfl rfl rfl rfl ?_
  (repeat' (first|refine wS ?_|refine wR ?_|(refine rg 0 (cC (cO rfl rfl) rfl (aV ?_)))|(refine rg 1 (vV (by exact lG rfl rfl) ?_);refine aV ?_)|refine nZ ?_));exact ⟨.inl rfl,[0],_,rfl,rfl,rfl,⟨.inr rfl,trivial⟩,by decide,R9⟩
def yA1 (l:List Int) (k:Nat):List AV:=match l[k]? with
  | some x=>[.i x]
  | none=>[]
theorem HX {l:List Int}{k:Nat}(h:k<l.length):yA1 l k=[.i l[k]]:=by unfold yA1;rw [aA h]
theorem UY (l:List Int) (hl:l.length≤17592186043904):EJ Tryz.prog 107 [] [.pr [.rowE (ints l) 1] 0] [] (yA1 l) l.length:=by
  have hll:(ints l).length=l.length:=by simp
  refine zZ5 T Tryz.func107 rfl rfl rfl rfl ?_;intro J A y hJ hy
  (repeat' (first|(first|(refine zI ?_)|(refine D1 ?_))|(((refine rU hJ (eW (id:=0) ?_)));(all_goals (refine lV T ?_;(refine qV T ?_);refine mV ?_)))|refine nZ ?_));refine JV (X:={k:Nat // k≤l.length}) (fun k=>[(0,.clo (.yield y) [] []),(5,.rowE (ints l) 1),(6,.i (ints l).length),(7,.i (k.1:Int))]) (fun _=>[]) (fun k=>(k.1,false)) (fun k=>l.length-k.1) ⟨0,bW _⟩ rfl (gH []) ?_
  rintro ⟨k,hkl⟩;dsimp only;by_cases hk:k<l.length
  · have hit:=HX hk;have q1:(ints l)[(k:Int).toNat]? = some [AV.i l[k]]:=by rw [bP,bY,aA hk];rfl
    generalize l[k]=x at *
    (repeat' (first|(first|(refine zI ?_)|(refine D1 ?_)|(refine AS ?_)|(refine zH6 ?_))|((refine zJ rfl (fun hb=>?_) (fun hb=>?_)<;>(((try simp only [nm] at hb);try ((exfalso;omega);done)))))|(((refine rU hJ (eW (id:=1) ?_)));(all_goals (refine vV (aL rfl rfl) ?_)))|(((refine rU hJ (eW (id:=2) ?_)));(all_goals (refine vV (ix T rfl (by omega) (dR _) q1) ?_;refine lV T ?_;refine aV ?_)))|(((refine HH (id:=3) ?_));((refine XZ 2 hJ ?_));(dsimp only [List.take,List.drop]);(all_goals (refine yQ7 ?_;refine iM ?_;refine KX hJ hy rfl rfl rfl hk hit rfl ?_));(all_goals (intro yes));(all_goals (refine zY0 hJ ?_;refine vV (eH rfl) ?_;refine AC (by ((dsimp only [List.nil_append,List.cons_append,List.append_nil,List.length_cons,List.length_nil,List.set_cons_zero,List.set_cons_succ,List.map_cons,List.map_nil,kV,nA,nE,tK,PJ,I6,BF,BD,BC,BE,I5,I8,I4,I7,Nat.zero_add,Nat.add_zero,Nat.reduceAdd,Bool.not_true,Bool.not_false];done))) ?_)))|(((refine rU hJ (eW (id:=4) ?_)));(all_goals (refine vV (cE rfl rfl (by omega) (by omega)) ?_;refine mV ?_)))|refine nZ ?_));all_goals first | (exfalso;omega) | skip
    · exact ⟨.inl rfl,fun h=>(by first | (subst hb;cases h) | (cases h;done)),[],rfl⟩
    · obtain rfl:=hb;exact ⟨⟨k+1,hk⟩,by dsimp only;omega,rfl,gH []⟩
  · (repeat' (first|(first|(refine zI ?_)|(refine JW ?_))|((refine zJ rfl (fun hb=>?_) (fun hb=>?_) <;> (((try simp only [nm] at hb);try ((exfalso;omega);done)))))|(((refine rU hJ (eW (id:=1) ?_)));(all_goals (refine vV (aL rfl rfl) ?_)))|(refine AC (by ((dsimp only [List.nil_append,List.cons_append,List.append_nil,List.length_cons,List.length_nil,List.set_cons_zero,List.set_cons_succ,List.map_cons,List.map_nil,kV,nA,nE,tK,PJ,I6,BF,BD,BC,BE,I5,I8,I4,I7,Nat.zero_add,Nat.add_zero,Nat.reduceAdd,Bool.not_true,Bool.not_false];done))) ?_)));all_goals first | (exfalso;omega) | skip
    exact ⟨.inr rfl,fun _=>by show k=_;omega,[],rfl⟩
abbrev yQ6 (l:List Int):Hp:=[.cells [.sl 1 0 l.length 1],.arr (ints l) 1]
theorem yN6:∀ i:Nat,i<1→([0,3]:List Nat)[i]? = some i:=by decide
theorem OI (l:List Int) (hl:l.length≤17592186043904):aT Tryz.prog 141 [.nils,zM4 l] [] (.sl 0 0 l.length 1) [.arr (ints l) 1]:=by
  have hit:=UY l hl;refine bU T Tryz.func141 rfl rfl rfl rfl ?_
  (repeat' (first|refine wS ?_|refine wB ?_|(refine rg 0 (cC (cO rfl rfl) rfl (aV ?_)))|(refine rg 1 (mV ?_))|refine nZ ?_));refine oN 0 0 1 rfl rfl (by decide) ?_
  refine OE [] [0,1] [(2,.ptr 0 0)] (fun k=>yQ6 (l.take k)) 1 rfl hit rfl rfl rfl trivial eT rfl ⟨rfl,trivial⟩ ⟨.inr rfl,.inr rfl,trivial⟩ (by decide) (R9) (by simp) (bW _) (aH rfl) rfl (by decide) (fun k hk=>by rw [HX hk];exact ⟨rfl,rfl⟩) ?_ ?_
  · intro k hk;rw [HX hk];have hks:=aP hk;have hkl:(l.take k).length≤l.length:=List.length_take_le' _ _;generalize l.take k=K at hks hkl ⊢;generalize l[k]=x at *;refine eW (id:=2) ?_;refine vV (by exact dK rfl) ?_
    refine iM ?_;refine ⟨rfl,?_⟩
    repeat' (first|refine wB ?_|(refine rg 3 (lW T rfl (mW rfl (cC (by exact bE T rfl rfl (by decide) (by decide) rfl rfl rfl) rfl ?_)));refine fS T rfl rfl rfl rfl rfl rfl (by simp) (iK.whole rfl rfl) rfl (by simp;omega) (by simp;omega) rfl ?_;refine bD T rfl rfl rfl rfl rfl rfl (by decide) rfl ?_)|refine nZ ?_)
    show KQ _ _ _ _ (yQ6 (l.take (k+1)));rw [hks];exact ⟨[0,3],rfl,trivial,⟨.inr (by simp;rfl),.inr (aC rfl (by simp;exact bO (by simp)) (bJ _)),trivial⟩,by decide,yN6⟩
  · have e:l.take l.length=l:=cQ;rw [e]
    (repeat' (first|refine wS ?_|refine wR ?_|(refine rg 4 (lW T rfl (aV ?_)))|refine nZ ?_));exact ⟨.inl rfl,[1],_,rfl,rfl,rfl,⟨.inr (aC rfl rfl (bJ _)),trivial⟩,by decide,R9⟩
theorem XG (l:List Int) (hl:l.length≤17592186043904):aT Tryz.prog 106 [zM4 l] [] (.sl 0 0 l.length 1) [.arr (ints l) 1]:=by
  have h1:=OI l hl;have hrf:=TL l;refine bU T Tryz.func106 rfl rfl rfl rfl ?_
  (repeat' (first|refine wS ?_|refine wR ?_|(refine rg 0 (aV ?_))|(refine rg 1 (mW rfl (cC (by exact fN rfl rfl h1 (.inr ⟨rfl,rfl,by simp⟩)) rfl ?_));refine aV ?_)|refine nZ ?_));exact ⟨.inl rfl,[0],_,rfl,rfl,rfl,⟨.inr (aC rfl (CU _ _) (bJ _)),trivial⟩,by decide,R9⟩
theorem LM (l:List Int) (hl:l.length≤17592186043904):aT Tryz.prog 70 [zM4 l] [] (.rowE (ints (jD l)) 1) []:=by
  refine kL (by simp [yB]:l.length=(ints (jD l)).length) (WK _) ?_
  have h1:=XG l hl;have h2:=PM l hl;have hrf:=TL l;generalize jD l=B at *;refine bU T Tryz.func70 rfl rfl rfl rfl ?_
  (repeat' (first|refine wS ?_|refine wR ?_|(refine rg 0 (aV ?_))|(refine rg 1 (mW rfl (cC (by exact fN rfl rfl h1 (.inr ⟨rfl,rfl,by simp⟩)) rfl ?_));refine aV ?_)|(refine rg 2 (mW rfl (eC [0] rfl rfl h2 rfl rfl (by decide) ⟨.inr (aC rfl (CU _ _) (bJ _)),trivial⟩ (by simp) rfl ?_)))|(refine rg 3 (mW rfl (aV ?_)))|refine nZ ?_));exact ⟨.inl rfl,[0],_,rfl,rfl,rfl,⟨.inr (aC rfl (CU _ _) (bJ _)),trivial⟩,by decide,R9⟩
end Go.Proofs.YtmmmeebiobjnbaaGreat
namespace Go.Pm
structure Rt (p:List Nat):Prop where
  nd:p.Nodup
  lt:∀ x,x∈p→x<p.length
abbrev mK (p:List Nat) (i:Nat):Nat:=p.getD i 0
theorem oD {p:List Nat}{i:Nat}(h:i<p.length):mK p i=p[i]:=by
  rw [mK,aD,aA h];rfl
theorem Rt.ltAt {p:List Nat}(r:Rt p){i:Nat}(h:i<p.length):mK p i<p.length:=by
  rw [oD h];exact r.lt _ (aM h)
theorem Rt.inj {p:List Nat}(r:Rt p){i j:Nat}(hi:i<p.length) (hj:j<p.length) (e:mK p i=mK p j):i=j:=by
  rw [oD hi,oD hj] at e;have h:=lH.1 r.nd;rcases Nat.lt_trichotomy i j with h1 | h1 | h1
  · exact absurd e (h i j hi hj h1)
  · exact h1
  · exact absurd e.symm (h j i hj hi h1)
theorem Rt.mem {p:List Nat}(r:Rt p){x:Nat}(h:x<p.length):x∈p:=by
  apply Classical.byContradiction;intro hx;have h1:(x::p).Nodup:=fT.2 ⟨hx,r.nd⟩
  have:=h1.length_le_of_subset (l₂:=List.range p.length) (fun y hy=>by
    rw [eU];rcases bN.1 hy with rfl | hy
    · exact h
    · exact r.lt y hy)
  simp at this;omega
theorem yI6 {p:List Nat}(h1:∀ i,i<p.length→mK p i<p.length) (h2:∀ i j,i<p.length→j<p.length→mK p i=mK p j→i=j):Rt p:=by
  refine ⟨?_,fun x hx=>?_⟩
  · rw [List.Nodup,lH];intro i j hi hj hij e;have:=h2 i j hi hj (by rw [oD hi,oD hj];exact e)
    omega
  · obtain ⟨i,hi,rfl⟩:=oJ.1 hx;rw [← oD hi];exact h1 i hi
theorem yE2 {p q:List Nat}(hl:p.length=q.length) (h:∀ i,i<p.length→mK p i=mK q i):p=q:=by
  refine jQ hl fun i h1 h2=>?_
  have:=h i h1
  rwa [oD h1,oD h2] at this
theorem yF7 {f:Nat→Nat}{l:List Nat}{i:Nat}(h:i<l.length):mK (l.map f) i=f (mK l i):=by
  rw [oD (by simpa using h),oD h];simp
theorem zI3 {l:List Nat}{i j v:Nat}(h:i<l.length):mK (l.set i v) j=if i=j then v else mK l j:=by
  rw [mK,aD,gZ];by_cases e:i=j
  · rw [if_pos e,if_pos e,if_pos h];rfl
  · rw [if_neg e,if_neg e,mK,aD]
def comp (p q:List Nat):List Nat:=q.map (mK p)
theorem pM (p q:List Nat):(comp p q).length=q.length:=aX _
theorem AR {p q:List Nat}{i:Nat}(h:i<q.length):mK (comp p q) i=mK p (mK q i):=yF7 h
def KP (p:List Nat) (a b:Nat):List Nat:=(p.set a (mK p b)).set b (mK p a)
theorem E0 (p:List Nat) (a b:Nat):(KP p a b).length=p.length:=by simp [KP]
theorem BG {p:List Nat}{a b i:Nat}(ha:a<p.length) (hb:b<p.length):mK (KP p a b) i=if b=i then mK p a else if a=i then mK p b else mK p i:=by
  unfold KP;rw [zI3 (by simpa using hb),zI3 ha]
theorem yA8 {p:List Nat}(r:Rt p){a b:Nat}(ha:a<p.length) (hb:b<p.length):Rt (KP p a b):=by
  refine yI6 (fun i hi=>?_) (fun i j hi hj e=>?_)
  · rw [E0] at hi ⊢;rw [BG ha hb];split
    · exact r.ltAt ha
    · split
      · exact r.ltAt hb
      · exact r.ltAt hi
  · rw [E0] at hi hj;rw [BG ha hb,BG ha hb] at e;by_cases h1:b=i
    · subst h1;rw [if_pos rfl] at e;by_cases h2:b=j
      · exact h2
      · rw [if_neg h2] at e;by_cases h3:a=j
        · rw [if_pos h3] at e;have:=r.inj ha hb e;omega
        · rw [if_neg h3] at e;exact absurd (r.inj ha hj e) h3
    · rw [if_neg h1] at e;by_cases h2:b=j
      · subst h2;rw [if_pos rfl] at e;by_cases h3:a=i
        · rw [if_pos h3] at e;have:=r.inj hb ha e;omega
        · rw [if_neg h3] at e;exact absurd (r.inj hi ha e).symm h3
      · rw [if_neg h2] at e;by_cases h3:a=i
        · rw [if_pos h3] at e;by_cases h4:a=j
          · omega
          · rw [if_neg h4] at e;exact absurd (r.inj hb hj e) h2
        · rw [if_neg h3] at e;by_cases h4:a=j
          · rw [if_pos h4] at e;exact absurd (r.inj hi hb e).symm h1
          · rw [if_neg h4] at e;exact r.inj hi hj e
theorem YL {p q:List Nat}{a b:Nat}(ha:a<q.length) (hb:b<q.length):comp p (KP q a b)=KP (comp p q) a b:=by
  refine yE2 (by simp [pM,E0]) fun i hi=>?_
  rw [pM,E0] at hi;rw [AR (by rw [E0];exact hi),BG ha hb,BG (by rw [pM];exact ha) (by rw [pM];exact hb),AR ha,AR hb,AR hi]
  split
  · rfl
  · split <;> rfl
inductive Sw (x:List Nat):Bool→List Nat→Prop
  | refl:Sw x false x
  | swap {b:Bool} {y:List Nat} {i j:Nat}:Sw x b y→i<x.length→j<x.length→i≠j→Sw x (!b) (KP y i j)
theorem Sw.len {x y:List Nat}{b:Bool}(h:Sw x b y):y.length=x.length:=by
  induction h with
  | refl=>rfl
  | swap _ _ _ _ ih=>rw [E0];exact ih
theorem Sw.rt {x y:List Nat}{b:Bool}(h:Sw x b y) (r:Rt x):Rt y:=by
  induction h with
  | refl=>exact r
  | swap h' h1 h2 _ ih=>exact yA8 ih (by rw [h'.len];exact h1) (by rw [h'.len];exact h2)
theorem Sw.comp {p x y:List Nat}{b:Bool}(h:Sw x b y):Sw (comp p x) b (comp p y):=by
  induction h with
  | refl=>exact .refl
  | swap h' h1 h2 h3 ih=>
    rw [YL (by rw [h'.len];exact h1) (by rw [h'.len];exact h2)]
    exact .swap ih (by rw [pM];exact h1) (by rw [pM];exact h2) h3
abbrev bt (s:List Bool) (i:Nat):Bool:=s.getD i false
theorem yF3 {s:List Bool}{i j:Nat}{v:Bool}(h:i<s.length):bt (s.set i v) j=if i=j then v else bt s j:=by
  rw [bt,aD,gZ];by_cases e:i=j
  · rw [if_pos e,if_pos e,if_pos h];rfl
  · rw [if_neg e,if_neg e,bt,aD]
def zV5 (p:List Nat):Nat→List Bool→List Nat→Nat→List Bool × List Nat
  | 0,sn,c,_=>(sn,c)
  | f+1,sn,c,k=>if bt sn k then (sn,c) else zV5 p f (sn.set k true) (c++[k]) (mK p k)
def XE (p:List Nat):Nat→List Bool × List (List Nat)
  | 0=>(List.replicate p.length false,[])
  | i+1=>((zV5 p p.length (XE p i).1 [] i).1,if 1<(zV5 p p.length (XE p i).1 [] i).2.length then (XE p i).2++[(zV5 p p.length (XE p i).1 [] i).2] else (XE p i).2)
def yO9 (p:List Nat):List (List Nat):=(XE p p.length).2
structure CI (p:List Nat) (sn0:List Bool) (i:Nat) (sn:List Bool) (c:List Nat) (k:Nat):Prop where
  len:sn.length=p.length
  nd:c.Nodup
  lt:∀ x,x∈c→x<p.length
  sn:∀ x,x<p.length→(bt sn x=true↔bt sn0 x=true∨x∈c)
  new:∀ x,x∈c→bt sn0 x=false
  z:c=[]→k=i
  hd:c≠[]→mK c 0=i
  nx:c≠[]→k=mK p (mK c (c.length-1))
  st:∀ j,j+1<c.length→mK c (j+1)=mK p (mK c j)
  k:k<p.length
theorem AT {c:List Nat}{k j:Nat}:mK (c++[k]) j=if j<c.length then mK c j else if j=c.length then k else 0:=by
  rw [mK,aD];by_cases h:j<c.length
  · rw [if_pos h,aG h,mK,aD]
  · rw [if_neg h,aE (by omega)]
    by_cases h2:j=c.length
    · rw [if_pos h2,h2];simp
    · rw [if_neg h2];rw [cX (by simp;omega)];rfl
theorem CI.step {p:List Nat}(r:Rt p){sn0 sn:List Bool}{i k:Nat}{c:List Nat}(h:CI p sn0 i sn c k) (hb:bt sn k=false):CI p sn0 i (sn.set k true) (c++[k]) (mK p k):=by
  have hk:=h.k;have hkc:¬ (bt sn0 k=true∨k∈c):=fun q=>by rw [(h.sn k hk).2 q] at hb;cases hb
  refine ⟨by simp [h.len],?_,fun x hx=>?_,fun x hx=>?_,fun x hx=>?_,fun e=>by simp at e,fun _=>?_,fun _=>?_,fun j hj=>?_,r.ltAt hk⟩
  · rw [dB];exact ⟨h.nd,by simp,fun a ha b hb e=>by simp at hb;subst hb;subst e;exact hkc (.inr ha)⟩
  · rcases bL.1 hx with hx | hx
    · exact h.lt x hx
    · simp at hx;subst hx;exact hk
  · rw [yF3 (by rw [h.len];exact hk)]
    by_cases e:k=x
    · subst e;simp
    · rw [if_neg e,h.sn x hx];simp [Ne.symm e]
  · rcases bL.1 hx with hx | hx
    · exact h.new x hx
    · simp at hx;subst hx;rw [← eS];exact fun q=>hkc (.inl q)
  · rw [AT];cases c with
    | nil=>simp;exact h.z rfl
    | cons a c=>simp;exact h.hd (by simp)
  · simp [AT]
  · simp at hj;rw [AT,AT,if_pos hj];by_cases e:j+1<c.length
    · rw [if_pos e];exact h.st j e
    · rw [if_neg e,if_pos (by omega)]
      have:=h.nx (by intro q;subst q;simp at hj)
      rw [this,show c.length-1=j by omega]
structure yS4 (p:List Nat) (c:List Nat):Prop where
  ne:c≠[]
  nd:c.Nodup
  lt:∀ x,x∈c→x<p.length
  st:∀ j,j<c.length→mK p (mK c j)=mK c ((j+1) % c.length)
theorem CI.fin {p:List Nat}(r:Rt p){sn0 sn:List Bool}{i k:Nat}{c:List Nat}(h:CI p sn0 i sn c k) (hcl:∀ x,x<p.length→bt sn0 (mK p x)=true→bt sn0 x=true) (hb:bt sn k=true) (hc:c≠[]):yS4 p c:=by
  have hc0:0<c.length:=fD.2 hc;have hlast:mK c (c.length-1)∈c:=by rw [oD (by omega)];exact aM _
  have hki:k=mK c 0:=by
    have hnx:=h.nx hc;rcases (h.sn k h.k).1 hb with h1 | h1
    · rw [hnx] at h1;have:=hcl _ (h.lt _ hlast) h1;rw [h.new _ hlast] at this;cases this
    · obtain ⟨j,hj,e⟩:=oJ.1 h1;rw [← oD hj] at e;cases j with
      | zero=>exact e.symm
      | succ j=>
        have h2:=h.st j hj;rw [e,hnx] at h2;have hjm:mK c j∈c:=by rw [oD (by omega)];exact aM _
        have h3:=r.inj (h.lt _ hlast) (h.lt _ hjm) h2;rw [oD (by omega),oD (by omega)] at h3
        have hp:=lH.1 h.nd;exact absurd h3.symm (hp j (c.length-1) (by omega) (by omega) (by omega))
  refine ⟨hc,h.nd,h.lt,fun j hj=>?_⟩
  by_cases e:j+1<c.length
  · rw [Nat.mod_eq_of_lt e,h.st j e]
  · have:j=c.length-1:=by omega
    rw [show j+1=c.length by omega,Nat.mod_self,← hki,h.nx hc,this]
theorem CP {c:List Nat}(h:c.Nodup){i j:Nat}(hi:i<c.length) (hj:j<c.length) (e:mK c i=mK c j):i=j:=by
  rw [oD hi,oD hj] at e;have h:=lH.1 h;rcases Nat.lt_trichotomy i j with h1 | h1 | h1
  · exact absurd e (h i j hi hj h1)
  · exact h1
  · exact absurd e.symm (h j i hj hi h1)
def yO2:Nat→Nat
  | 0=>1
  | n+1=>yO2 n*(n+1)
abbrev Up (l:List Nat):Prop:=l.Pairwise (· < ·)
theorem Rt.perm {p:List Nat}(r:Rt p):p.Perm (List.range p.length):=
  (List.perm_ext_iff_of_nodup r.nd zX3).2 fun x=>by rw [eU];exact ⟨r.lt x,r.mem⟩
end Go.Pm
namespace Go.Pm
open Go.Ab
def permB (p:List Int):Bool:=decide (jD p=nats (List.range p.length))
theorem le_tr:∀ (a b c:Int),decide (a≤b)=true→decide (b≤c)=true→decide (a≤c)=true:=fun a b c h1 h2=>by simp at *;omega
theorem yC7:∀ (a b:Int),(decide (a≤b)||decide (b≤a))=true:=fun a b=>by simp;omega
theorem sorted_perm (p:List Int):(jD p).Perm p:=List.mergeSort_perm _ _
theorem sorted_up (p:List Int):(jD p).Pairwise (fun a b=>a≤b):=
  (List.pairwise_mergeSort le_tr yC7 p).imp (fun h=>by simpa using h)
theorem sorted_eq {p q:List Int}(h:p.Perm q) (hq:q.Pairwise (fun a b=>a≤b)):jD p=q:=
  List.Perm.eq_of_pairwise (le:=fun a b=>a≤b) (fun a b _ _ h1 h2=>by omega) (sorted_up p) hq ((sorted_perm p).trans h)
theorem range_le (n:Nat):(nats (List.range n)).Pairwise (fun a b=>a≤b):=
  List.Pairwise.map _ (fun a b h=>by omega) (xS (n:=n))
end Go.Pm
