import Derived.Test.YtfmpeoickjggiaaGreatDoorRows
import Derived.Test.YtfmpeoickjggiaaGreatDoorK3
import Derived.Test.YtfmpeoickjggiaaGreatDoorIns
import Derived.Test.YtfmpeoickjggiaaGreatDoorC9
import Derived.Test.YtfmpeoickjggiaaGreatDoorCc9
import Derived.Test.YtfmpeoickjggiaaGreatDoorC9z
namespace Go.Proofs.YtfmpeoickjggiaaGreatDoor
open Go.EX
def gids : List Nat := [100000, 100001, 703, 463, 468, 374, 659, 534, 350, 331, 8, 1, 303, 340, 368, 661, 660, 248, 533, 540, 325, 61, 25, 29, 33, 34, 28, 24, 18, 17, 23, 22, 21, 32, 35, 30, 26, 20, 19, 27, 16, 31, 45, 49, 53, 54, 48, 44, 38, 37, 43, 42, 41, 52, 55, 50, 46, 40, 39, 47, 36, 51, 75, 79, 83, 84, 78, 74, 68, 67, 73, 72, 71, 82, 85, 80, 76, 70, 69, 77, 66, 81, 313, 367, 662, 251, 247, 249, 737, 250, 766, 542, 538, 536, 145, 535, 324, 411, 415, 419, 420, 414, 410, 404, 403, 409, 408, 407, 418, 421, 416, 412, 406, 405, 413, 402, 417, 391, 395, 399, 400, 394, 390, 384, 383, 389, 388, 387, 398, 401, 396, 392, 386, 385, 393, 382, 397, 312, 363, 364, 370, 371, 369, 252, 253, 747, 254, 750, 255, 748, 256, 259, 257, 100153, 783, 539, 543, 541, 537, 320, 321, 327, 328, 326, 422, 304, 305, 318, 319, 314, 757, 760, 758, 746, 258, 782, 786, 756, 767, 709, 708, 719, 718, 713, 714, 716, 732, 712, 715, 733, 734, 735, 100192, 100193, 100194, 100195, 100196, 100197, 100198, 100199, 100200, 100201, 100202, 100203, 100204, 100205, 100206, 100207, 100208, 100209, 100210, 100211, 100212, 100213, 704]
def num (f : FuncId) : Nat := (gids[f]?).getD (100000 + f)
theorem ok3 : FunOK Tryz.prog num 3 x463 := .of Tryz.func3 (by kernel_rfl) (by kernel_rfl) (by kernel_rfl) (by kernel_rfl) (by kernel_rfl)
theorem ok4 : FunOK Tryz.prog num 4 x468 := .of Tryz.func4 (by kernel_rfl) (by kernel_rfl) (by kernel_rfl) (by kernel_rfl) (by kernel_rfl)
theorem ok5 : FunOK Tryz.prog num 5 x374 := .of Tryz.func5 (by kernel_rfl) (by kernel_rfl) (by kernel_rfl) (by kernel_rfl) (by kernel_rfl)
theorem ok6 : FunOK Tryz.prog num 6 x659 := .of Tryz.func6 (by kernel_rfl) (by kernel_rfl) (by kernel_rfl) (by kernel_rfl) (by kernel_rfl)
theorem ok7 : FunOK Tryz.prog num 7 x534 := .of Tryz.func7 (by kernel_rfl) (by kernel_rfl) (by kernel_rfl) (by kernel_rfl) (by kernel_rfl)
theorem ok8 : FunOK Tryz.prog num 8 x350 := .of Tryz.func8 (by kernel_rfl) (by kernel_rfl) (by kernel_rfl) (by kernel_rfl) (by kernel_rfl)
theorem ok9 : FunOK Tryz.prog num 9 x331 := .of Tryz.func9 (by kernel_rfl) (by kernel_rfl) (by kernel_rfl) (by kernel_rfl) (by kernel_rfl)
theorem ok10 : FunOK Tryz.prog num 10 x8 := .of Tryz.func10 (by kernel_rfl) (by kernel_rfl) (by kernel_rfl) (by kernel_rfl) (by kernel_rfl)
theorem ok11 : FunOK Tryz.prog num 11 x1 := .of Tryz.func11 (by kernel_rfl) (by kernel_rfl) (by kernel_rfl) (by kernel_rfl) (by kernel_rfl)
theorem ok12 : FunOK Tryz.prog num 12 x303 := .of Tryz.func12 (by kernel_rfl) (by kernel_rfl) (by kernel_rfl) (by kernel_rfl) (by kernel_rfl)
theorem ok13 : FunOK Tryz.prog num 13 x340 := .of Tryz.func13 (by kernel_rfl) (by kernel_rfl) (by kernel_rfl) (by kernel_rfl) (by kernel_rfl)
theorem ok14 : FunOK Tryz.prog num 14 x368 := .of Tryz.func14 (by kernel_rfl) (by kernel_rfl) (by kernel_rfl) (by kernel_rfl) (by kernel_rfl)
theorem ok15 : FunOK Tryz.prog num 15 x661 := .of Tryz.func15 (by kernel_rfl) (by kernel_rfl) (by kernel_rfl) (by kernel_rfl) (by kernel_rfl)
theorem ok16 : FunOK Tryz.prog num 16 x660 := .of Tryz.func16 (by kernel_rfl) (by kernel_rfl) (by kernel_rfl) (by kernel_rfl) (by kernel_rfl)
theorem ok17 : FunOK Tryz.prog num 17 x248 := .of Tryz.func17 (by kernel_rfl) (by kernel_rfl) (by kernel_rfl) (by kernel_rfl) (by kernel_rfl)
theorem ok18 : FunOK Tryz.prog num 18 x533 := .of Tryz.func18 (by kernel_rfl) (by kernel_rfl) (by kernel_rfl) (by kernel_rfl) (by kernel_rfl)
theorem ok19 : FunOK Tryz.prog num 19 x540 := .of Tryz.func19 (by kernel_rfl) (by kernel_rfl) (by kernel_rfl) (by kernel_rfl) (by kernel_rfl)
theorem ok20 : FunOK Tryz.prog num 20 x325 := .of Tryz.func20 (by kernel_rfl) (by kernel_rfl) (by kernel_rfl) (by kernel_rfl) (by kernel_rfl)
theorem ok21 : FunOK Tryz.prog num 21 x61 := .of Tryz.func21 (by kernel_rfl) (by kernel_rfl) (by kernel_rfl) (by kernel_rfl) (by kernel_rfl)
theorem ok22 : FunOK Tryz.prog num 22 x25 := .of Tryz.func22 (by kernel_rfl) (by kernel_rfl) (by kernel_rfl) (by kernel_rfl) (by kernel_rfl)
theorem ok23 : FunOK Tryz.prog num 23 x29 := .of Tryz.func23 (by kernel_rfl) (by kernel_rfl) (by kernel_rfl) (by kernel_rfl) (by kernel_rfl)
theorem ok24 : FunOK Tryz.prog num 24 x33 := .of Tryz.func24 (by kernel_rfl) (by kernel_rfl) (by kernel_rfl) (by kernel_rfl) (by kernel_rfl)
theorem ok25 : FunOK Tryz.prog num 25 x34 := .of Tryz.func25 (by kernel_rfl) (by kernel_rfl) (by kernel_rfl) (by kernel_rfl) (by kernel_rfl)
theorem ok26 : FunOK Tryz.prog num 26 x28 := .of Tryz.func26 (by kernel_rfl) (by kernel_rfl) (by kernel_rfl) (by kernel_rfl) (by kernel_rfl)
theorem ok27 : FunOK Tryz.prog num 27 x24 := .of Tryz.func27 (by kernel_rfl) (by kernel_rfl) (by kernel_rfl) (by kernel_rfl) (by kernel_rfl)
theorem ok28 : FunOK Tryz.prog num 28 x18 := .of Tryz.func28 (by kernel_rfl) (by kernel_rfl) (by kernel_rfl) (by kernel_rfl) (by kernel_rfl)
theorem ok29 : FunOK Tryz.prog num 29 x17 := .of Tryz.func29 (by kernel_rfl) (by kernel_rfl) (by kernel_rfl) (by kernel_rfl) (by kernel_rfl)
theorem ok30 : FunOK Tryz.prog num 30 x23 := .of Tryz.func30 (by kernel_rfl) (by kernel_rfl) (by kernel_rfl) (by kernel_rfl) (by kernel_rfl)
theorem ok31 : FunOK Tryz.prog num 31 x22 := .of Tryz.func31 (by kernel_rfl) (by kernel_rfl) (by kernel_rfl) (by kernel_rfl) (by kernel_rfl)
theorem ok32 : FunOK Tryz.prog num 32 x21 := .of Tryz.func32 (by kernel_rfl) (by kernel_rfl) (by kernel_rfl) (by kernel_rfl) (by kernel_rfl)
theorem ok33 : FunOK Tryz.prog num 33 x32 := .of Tryz.func33 (by kernel_rfl) (by kernel_rfl) (by kernel_rfl) (by kernel_rfl) (by kernel_rfl)
theorem ok34 : FunOK Tryz.prog num 34 x35 := .of Tryz.func34 (by kernel_rfl) (by kernel_rfl) (by kernel_rfl) (by kernel_rfl) (by kernel_rfl)
theorem ok35 : FunOK Tryz.prog num 35 x30 := .of Tryz.func35 (by kernel_rfl) (by kernel_rfl) (by kernel_rfl) (by kernel_rfl) (by kernel_rfl)
theorem ok36 : FunOK Tryz.prog num 36 x26 := .of Tryz.func36 (by kernel_rfl) (by kernel_rfl) (by kernel_rfl) (by kernel_rfl) (by kernel_rfl)
theorem ok37 : FunOK Tryz.prog num 37 x20 := .of Tryz.func37 (by kernel_rfl) (by kernel_rfl) (by kernel_rfl) (by kernel_rfl) (by kernel_rfl)
theorem ok38 : FunOK Tryz.prog num 38 x19 := .of Tryz.func38 (by kernel_rfl) (by kernel_rfl) (by kernel_rfl) (by kernel_rfl) (by kernel_rfl)
theorem ok39 : FunOK Tryz.prog num 39 x27 := .of Tryz.func39 (by kernel_rfl) (by kernel_rfl) (by kernel_rfl) (by kernel_rfl) (by kernel_rfl)
theorem ok40 : FunOK Tryz.prog num 40 x16 := .of Tryz.func40 (by kernel_rfl) (by kernel_rfl) (by kernel_rfl) (by kernel_rfl) (by kernel_rfl)
theorem ok41 : FunOK Tryz.prog num 41 x31 := .of Tryz.func41 (by kernel_rfl) (by kernel_rfl) (by kernel_rfl) (by kernel_rfl) (by kernel_rfl)
theorem ok42 : FunOK Tryz.prog num 42 x45 := .of Tryz.func42 (by kernel_rfl) (by kernel_rfl) (by kernel_rfl) (by kernel_rfl) (by kernel_rfl)
theorem ok43 : FunOK Tryz.prog num 43 x49 := .of Tryz.func43 (by kernel_rfl) (by kernel_rfl) (by kernel_rfl) (by kernel_rfl) (by kernel_rfl)
theorem ok44 : FunOK Tryz.prog num 44 x53 := .of Tryz.func44 (by kernel_rfl) (by kernel_rfl) (by kernel_rfl) (by kernel_rfl) (by kernel_rfl)
theorem ok45 : FunOK Tryz.prog num 45 x54 := .of Tryz.func45 (by kernel_rfl) (by kernel_rfl) (by kernel_rfl) (by kernel_rfl) (by kernel_rfl)
theorem ok46 : FunOK Tryz.prog num 46 x48 := .of Tryz.func46 (by kernel_rfl) (by kernel_rfl) (by kernel_rfl) (by kernel_rfl) (by kernel_rfl)
theorem ok47 : FunOK Tryz.prog num 47 x44 := .of Tryz.func47 (by kernel_rfl) (by kernel_rfl) (by kernel_rfl) (by kernel_rfl) (by kernel_rfl)
theorem ok48 : FunOK Tryz.prog num 48 x38 := .of Tryz.func48 (by kernel_rfl) (by kernel_rfl) (by kernel_rfl) (by kernel_rfl) (by kernel_rfl)
theorem ok49 : FunOK Tryz.prog num 49 x37 := .of Tryz.func49 (by kernel_rfl) (by kernel_rfl) (by kernel_rfl) (by kernel_rfl) (by kernel_rfl)
theorem ok50 : FunOK Tryz.prog num 50 x43 := .of Tryz.func50 (by kernel_rfl) (by kernel_rfl) (by kernel_rfl) (by kernel_rfl) (by kernel_rfl)
theorem ok51 : FunOK Tryz.prog num 51 x42 := .of Tryz.func51 (by kernel_rfl) (by kernel_rfl) (by kernel_rfl) (by kernel_rfl) (by kernel_rfl)
theorem ok52 : FunOK Tryz.prog num 52 x41 := .of Tryz.func52 (by kernel_rfl) (by kernel_rfl) (by kernel_rfl) (by kernel_rfl) (by kernel_rfl)
theorem ok53 : FunOK Tryz.prog num 53 x52 := .of Tryz.func53 (by kernel_rfl) (by kernel_rfl) (by kernel_rfl) (by kernel_rfl) (by kernel_rfl)
theorem ok54 : FunOK Tryz.prog num 54 x55 := .of Tryz.func54 (by kernel_rfl) (by kernel_rfl) (by kernel_rfl) (by kernel_rfl) (by kernel_rfl)
theorem ok55 : FunOK Tryz.prog num 55 x50 := .of Tryz.func55 (by kernel_rfl) (by kernel_rfl) (by kernel_rfl) (by kernel_rfl) (by kernel_rfl)
theorem ok56 : FunOK Tryz.prog num 56 x46 := .of Tryz.func56 (by kernel_rfl) (by kernel_rfl) (by kernel_rfl) (by kernel_rfl) (by kernel_rfl)
theorem ok57 : FunOK Tryz.prog num 57 x40 := .of Tryz.func57 (by kernel_rfl) (by kernel_rfl) (by kernel_rfl) (by kernel_rfl) (by kernel_rfl)
theorem ok58 : FunOK Tryz.prog num 58 x39 := .of Tryz.func58 (by kernel_rfl) (by kernel_rfl) (by kernel_rfl) (by kernel_rfl) (by kernel_rfl)
theorem ok59 : FunOK Tryz.prog num 59 x47 := .of Tryz.func59 (by kernel_rfl) (by kernel_rfl) (by kernel_rfl) (by kernel_rfl) (by kernel_rfl)
theorem ok60 : FunOK Tryz.prog num 60 x36 := .of Tryz.func60 (by kernel_rfl) (by kernel_rfl) (by kernel_rfl) (by kernel_rfl) (by kernel_rfl)
theorem ok61 : FunOK Tryz.prog num 61 x51 := .of Tryz.func61 (by kernel_rfl) (by kernel_rfl) (by kernel_rfl) (by kernel_rfl) (by kernel_rfl)
theorem ok62 : FunOK Tryz.prog num 62 x75 := .of Tryz.func62 (by kernel_rfl) (by kernel_rfl) (by kernel_rfl) (by kernel_rfl) (by kernel_rfl)
theorem ok63 : FunOK Tryz.prog num 63 x79 := .of Tryz.func63 (by kernel_rfl) (by kernel_rfl) (by kernel_rfl) (by kernel_rfl) (by kernel_rfl)
theorem ok64 : FunOK Tryz.prog num 64 x83 := .of Tryz.func64 (by kernel_rfl) (by kernel_rfl) (by kernel_rfl) (by kernel_rfl) (by kernel_rfl)
theorem ok65 : FunOK Tryz.prog num 65 x84 := .of Tryz.func65 (by kernel_rfl) (by kernel_rfl) (by kernel_rfl) (by kernel_rfl) (by kernel_rfl)
theorem ok66 : FunOK Tryz.prog num 66 x78 := .of Tryz.func66 (by kernel_rfl) (by kernel_rfl) (by kernel_rfl) (by kernel_rfl) (by kernel_rfl)
theorem ok67 : FunOK Tryz.prog num 67 x74 := .of Tryz.func67 (by kernel_rfl) (by kernel_rfl) (by kernel_rfl) (by kernel_rfl) (by kernel_rfl)
theorem ok68 : FunOK Tryz.prog num 68 x68 := .of Tryz.func68 (by kernel_rfl) (by kernel_rfl) (by kernel_rfl) (by kernel_rfl) (by kernel_rfl)
theorem ok69 : FunOK Tryz.prog num 69 x67 := .of Tryz.func69 (by kernel_rfl) (by kernel_rfl) (by kernel_rfl) (by kernel_rfl) (by kernel_rfl)
theorem ok70 : FunOK Tryz.prog num 70 x73 := .of Tryz.func70 (by kernel_rfl) (by kernel_rfl) (by kernel_rfl) (by kernel_rfl) (by kernel_rfl)
theorem ok71 : FunOK Tryz.prog num 71 x72 := .of Tryz.func71 (by kernel_rfl) (by kernel_rfl) (by kernel_rfl) (by kernel_rfl) (by kernel_rfl)
theorem ok72 : FunOK Tryz.prog num 72 x71 := .of Tryz.func72 (by kernel_rfl) (by kernel_rfl) (by kernel_rfl) (by kernel_rfl) (by kernel_rfl)
theorem ok73 : FunOK Tryz.prog num 73 x82 := .of Tryz.func73 (by kernel_rfl) (by kernel_rfl) (by kernel_rfl) (by kernel_rfl) (by kernel_rfl)
theorem ok74 : FunOK Tryz.prog num 74 x85 := .of Tryz.func74 (by kernel_rfl) (by kernel_rfl) (by kernel_rfl) (by kernel_rfl) (by kernel_rfl)
theorem ok75 : FunOK Tryz.prog num 75 x80 := .of Tryz.func75 (by kernel_rfl) (by kernel_rfl) (by kernel_rfl) (by kernel_rfl) (by kernel_rfl)
theorem ok76 : FunOK Tryz.prog num 76 x76 := .of Tryz.func76 (by kernel_rfl) (by kernel_rfl) (by kernel_rfl) (by kernel_rfl) (by kernel_rfl)
theorem ok77 : FunOK Tryz.prog num 77 x70 := .of Tryz.func77 (by kernel_rfl) (by kernel_rfl) (by kernel_rfl) (by kernel_rfl) (by kernel_rfl)
theorem ok78 : FunOK Tryz.prog num 78 x69 := .of Tryz.func78 (by kernel_rfl) (by kernel_rfl) (by kernel_rfl) (by kernel_rfl) (by kernel_rfl)
theorem ok79 : FunOK Tryz.prog num 79 x77 := .of Tryz.func79 (by kernel_rfl) (by kernel_rfl) (by kernel_rfl) (by kernel_rfl) (by kernel_rfl)
theorem ok80 : FunOK Tryz.prog num 80 x66 := .of Tryz.func80 (by kernel_rfl) (by kernel_rfl) (by kernel_rfl) (by kernel_rfl) (by kernel_rfl)
theorem ok81 : FunOK Tryz.prog num 81 x81 := .of Tryz.func81 (by kernel_rfl) (by kernel_rfl) (by kernel_rfl) (by kernel_rfl) (by kernel_rfl)
theorem ok82 : FunOK Tryz.prog num 82 x313 := .of Tryz.func82 (by kernel_rfl) (by kernel_rfl) (by kernel_rfl) (by kernel_rfl) (by kernel_rfl)
theorem ok83 : FunOK Tryz.prog num 83 x367 := .of Tryz.func83 (by kernel_rfl) (by kernel_rfl) (by kernel_rfl) (by kernel_rfl) (by kernel_rfl)
theorem ok84 : FunOK Tryz.prog num 84 x662 := .of Tryz.func84 (by kernel_rfl) (by kernel_rfl) (by kernel_rfl) (by kernel_rfl) (by kernel_rfl)
theorem ok85 : FunOK Tryz.prog num 85 x251 := .of Tryz.func85 (by kernel_rfl) (by kernel_rfl) (by kernel_rfl) (by kernel_rfl) (by kernel_rfl)
theorem ok86 : FunOK Tryz.prog num 86 x247 := .of Tryz.func86 (by kernel_rfl) (by kernel_rfl) (by kernel_rfl) (by kernel_rfl) (by kernel_rfl)
theorem ok87 : FunOK Tryz.prog num 87 x249 := .of Tryz.func87 (by kernel_rfl) (by kernel_rfl) (by kernel_rfl) (by kernel_rfl) (by kernel_rfl)
theorem ok88 : FunOK Tryz.prog num 88 x737 := .of Tryz.func88 (by kernel_rfl) (by kernel_rfl) (by kernel_rfl) (by kernel_rfl) (by kernel_rfl)
theorem ok89 : FunOK Tryz.prog num 89 x250 := .of Tryz.func89 (by kernel_rfl) (by kernel_rfl) (by kernel_rfl) (by kernel_rfl) (by kernel_rfl)
theorem ok91 : FunOK Tryz.prog num 91 x542 := .of Tryz.func91 (by kernel_rfl) (by kernel_rfl) (by kernel_rfl) (by kernel_rfl) (by kernel_rfl)
theorem ok92 : FunOK Tryz.prog num 92 x538 := .of Tryz.func92 (by kernel_rfl) (by kernel_rfl) (by kernel_rfl) (by kernel_rfl) (by kernel_rfl)
theorem ok93 : FunOK Tryz.prog num 93 x536 := .of Tryz.func93 (by kernel_rfl) (by kernel_rfl) (by kernel_rfl) (by kernel_rfl) (by kernel_rfl)
theorem ok94 : FunOK Tryz.prog num 94 x145 := .of Tryz.func94 (by kernel_rfl) (by kernel_rfl) (by kernel_rfl) (by kernel_rfl) (by kernel_rfl)
theorem ok95 : FunOK Tryz.prog num 95 x535 := .of Tryz.func95 (by kernel_rfl) (by kernel_rfl) (by kernel_rfl) (by kernel_rfl) (by kernel_rfl)
theorem ok96 : FunOK Tryz.prog num 96 x324 := .of Tryz.func96 (by kernel_rfl) (by kernel_rfl) (by kernel_rfl) (by kernel_rfl) (by kernel_rfl)
theorem ok97 : FunOK Tryz.prog num 97 x411 := .of Tryz.func97 (by kernel_rfl) (by kernel_rfl) (by kernel_rfl) (by kernel_rfl) (by kernel_rfl)
theorem ok117 : FunOK Tryz.prog num 117 x391 := .of Tryz.func117 (by kernel_rfl) (by kernel_rfl) (by kernel_rfl) (by kernel_rfl) (by kernel_rfl)
theorem ok137 : FunOK Tryz.prog num 137 x312 := .of Tryz.func137 (by kernel_rfl) (by kernel_rfl) (by kernel_rfl) (by kernel_rfl) (by kernel_rfl)
theorem ok138 : FunOK Tryz.prog num 138 x363 := .of Tryz.func138 (by kernel_rfl) (by kernel_rfl) (by kernel_rfl) (by kernel_rfl) (by kernel_rfl)
theorem ok139 : FunOK Tryz.prog num 139 x364 := .of Tryz.func139 (by kernel_rfl) (by kernel_rfl) (by kernel_rfl) (by kernel_rfl) (by kernel_rfl)
theorem ok140 : FunOK Tryz.prog num 140 x370 := .of Tryz.func140 (by kernel_rfl) (by kernel_rfl) (by kernel_rfl) (by kernel_rfl) (by kernel_rfl)
theorem ok141 : FunOK Tryz.prog num 141 x371 := .of Tryz.func141 (by kernel_rfl) (by kernel_rfl) (by kernel_rfl) (by kernel_rfl) (by kernel_rfl)
theorem ok142 : FunOK Tryz.prog num 142 x369 := .of Tryz.func142 (by kernel_rfl) (by kernel_rfl) (by kernel_rfl) (by kernel_rfl) (by kernel_rfl)
theorem ok143 : FunOK Tryz.prog num 143 x252 := .of Tryz.func143 (by kernel_rfl) (by kernel_rfl) (by kernel_rfl) (by kernel_rfl) (by kernel_rfl)
theorem ok144 : FunOK Tryz.prog num 144 x253 := .of Tryz.func144 (by kernel_rfl) (by kernel_rfl) (by kernel_rfl) (by kernel_rfl) (by kernel_rfl)
theorem ok145 : FunOK Tryz.prog num 145 x747 := .of Tryz.func145 (by kernel_rfl) (by kernel_rfl) (by kernel_rfl) (by kernel_rfl) (by kernel_rfl)
theorem ok146 : FunOK Tryz.prog num 146 x254 := .of Tryz.func146 (by kernel_rfl) (by kernel_rfl) (by kernel_rfl) (by kernel_rfl) (by kernel_rfl)
theorem ok147 : FunOK Tryz.prog num 147 x750 := .of Tryz.func147 (by kernel_rfl) (by kernel_rfl) (by kernel_rfl) (by kernel_rfl) (by kernel_rfl)
theorem ok148 : FunOK Tryz.prog num 148 x255 := .of Tryz.func148 (by kernel_rfl) (by kernel_rfl) (by kernel_rfl) (by kernel_rfl) (by kernel_rfl)
theorem ok149 : FunOK Tryz.prog num 149 x748 := .of Tryz.func149 (by kernel_rfl) (by kernel_rfl) (by kernel_rfl) (by kernel_rfl) (by kernel_rfl)
theorem ok150 : FunOK Tryz.prog num 150 x256 := .of Tryz.func150 (by kernel_rfl) (by kernel_rfl) (by kernel_rfl) (by kernel_rfl) (by kernel_rfl)
theorem ok151 : FunOK Tryz.prog num 151 x259 := .of Tryz.func151 (by kernel_rfl) (by kernel_rfl) (by kernel_rfl) (by kernel_rfl) (by kernel_rfl)
theorem ok152 : FunOK Tryz.prog num 152 x257 := .of Tryz.func152 (by kernel_rfl) (by kernel_rfl) (by kernel_rfl) (by kernel_rfl) (by kernel_rfl)
theorem ok155 : FunOK Tryz.prog num 155 x539 := .of Tryz.func155 (by kernel_rfl) (by kernel_rfl) (by kernel_rfl) (by kernel_rfl) (by kernel_rfl)
theorem ok156 : FunOK Tryz.prog num 156 x543 := .of Tryz.func156 (by kernel_rfl) (by kernel_rfl) (by kernel_rfl) (by kernel_rfl) (by kernel_rfl)
theorem ok157 : FunOK Tryz.prog num 157 x541 := .of Tryz.func157 (by kernel_rfl) (by kernel_rfl) (by kernel_rfl) (by kernel_rfl) (by kernel_rfl)
theorem ok158 : FunOK Tryz.prog num 158 x537 := .of Tryz.func158 (by kernel_rfl) (by kernel_rfl) (by kernel_rfl) (by kernel_rfl) (by kernel_rfl)
theorem ok159 : FunOK Tryz.prog num 159 x320 := .of Tryz.func159 (by kernel_rfl) (by kernel_rfl) (by kernel_rfl) (by kernel_rfl) (by kernel_rfl)
theorem ok160 : FunOK Tryz.prog num 160 x321 := .of Tryz.func160 (by kernel_rfl) (by kernel_rfl) (by kernel_rfl) (by kernel_rfl) (by kernel_rfl)
theorem ok161 : FunOK Tryz.prog num 161 x327 := .of Tryz.func161 (by kernel_rfl) (by kernel_rfl) (by kernel_rfl) (by kernel_rfl) (by kernel_rfl)
theorem ok162 : FunOK Tryz.prog num 162 x328 := .of Tryz.func162 (by kernel_rfl) (by kernel_rfl) (by kernel_rfl) (by kernel_rfl) (by kernel_rfl)
theorem ok163 : FunOK Tryz.prog num 163 x326 := .of Tryz.func163 (by kernel_rfl) (by kernel_rfl) (by kernel_rfl) (by kernel_rfl) (by kernel_rfl)
theorem ok165 : FunOK Tryz.prog num 165 x304 := .of Tryz.func165 (by kernel_rfl) (by kernel_rfl) (by kernel_rfl) (by kernel_rfl) (by kernel_rfl)
theorem ok166 : FunOK Tryz.prog num 166 x305 := .of Tryz.func166 (by kernel_rfl) (by kernel_rfl) (by kernel_rfl) (by kernel_rfl) (by kernel_rfl)
theorem ok167 : FunOK Tryz.prog num 167 x318 := .of Tryz.func167 (by kernel_rfl) (by kernel_rfl) (by kernel_rfl) (by kernel_rfl) (by kernel_rfl)
theorem ok168 : FunOK Tryz.prog num 168 x319 := .of Tryz.func168 (by kernel_rfl) (by kernel_rfl) (by kernel_rfl) (by kernel_rfl) (by kernel_rfl)
theorem ok169 : FunOK Tryz.prog num 169 x314 := .of Tryz.func169 (by kernel_rfl) (by kernel_rfl) (by kernel_rfl) (by kernel_rfl) (by kernel_rfl)
theorem ok170 : FunOK Tryz.prog num 170 x757 := .of Tryz.func170 (by kernel_rfl) (by kernel_rfl) (by kernel_rfl) (by kernel_rfl) (by kernel_rfl)
theorem ok171 : FunOK Tryz.prog num 171 x760 := .of Tryz.func171 (by kernel_rfl) (by kernel_rfl) (by kernel_rfl) (by kernel_rfl) (by kernel_rfl)
theorem ok172 : FunOK Tryz.prog num 172 x758 := .of Tryz.func172 (by kernel_rfl) (by kernel_rfl) (by kernel_rfl) (by kernel_rfl) (by kernel_rfl)
theorem ok173 : FunOK Tryz.prog num 173 x746 := .of Tryz.func173 (by kernel_rfl) (by kernel_rfl) (by kernel_rfl) (by kernel_rfl) (by kernel_rfl)
theorem ok174 : FunOK Tryz.prog num 174 x258 := .of Tryz.func174 (by kernel_rfl) (by kernel_rfl) (by kernel_rfl) (by kernel_rfl) (by kernel_rfl)
theorem ok177 : FunOK Tryz.prog num 177 x756 := .of Tryz.func177 (by kernel_rfl) (by kernel_rfl) (by kernel_rfl) (by kernel_rfl) (by kernel_rfl)
abbrev FnAt (f : Nat) : Prop := ∀ xf, code9z (num f) = some xf → FunOK Tryz.prog num f xf
theorem hit {n : Nat} {x : XFun} (e : code9z (num n) = some x) (k : FunOK Tryz.prog num n x) (r : ∀ f, f < n → FnAt f) : ∀ f, f < n + 1 → FnAt f := fun f h xf hx => by
  rcases Nat.lt_or_eq_of_le (Nat.le_of_lt_succ h) with h | rfl
  · exact r f h xf hx
  · rw [e] at hx; cases hx; exact k
theorem nix {n : Nat} (e : code9z (num n) = none) (r : ∀ f, f < n → FnAt f) : ∀ f, f < n + 1 → FnAt f := fun f h xf hx => by
  rcases Nat.lt_or_eq_of_le (Nat.le_of_lt_succ h) with h | rfl
  · exact r f h xf hx
  · rw [e] at hx; cases hx
theorem upto20 : ∀ f, f < 20 → FnAt f :=
  hit (by kernel_rfl) ok19 <|
  hit (by kernel_rfl) ok18 <|
  hit (by kernel_rfl) ok17 <|
  hit (by kernel_rfl) ok16 <|
  hit (by kernel_rfl) ok15 <|
  hit (by kernel_rfl) ok14 <|
  hit (by kernel_rfl) ok13 <|
  hit (by kernel_rfl) ok12 <|
  hit (by kernel_rfl) ok11 <|
  hit (by kernel_rfl) ok10 <|
  hit (by kernel_rfl) ok9 <|
  hit (by kernel_rfl) ok8 <|
  hit (by kernel_rfl) ok7 <|
  hit (by kernel_rfl) ok6 <|
  hit (by kernel_rfl) ok5 <|
  hit (by kernel_rfl) ok4 <|
  hit (by kernel_rfl) ok3 <|
  nix (by kernel_rfl) <|
  nix (by kernel_rfl) <|
  nix (by kernel_rfl) (fun f h => absurd h (Nat.not_lt_zero f))
theorem upto40 : ∀ f, f < 40 → FnAt f :=
  hit (by kernel_rfl) ok39 <|
  hit (by kernel_rfl) ok38 <|
  hit (by kernel_rfl) ok37 <|
  hit (by kernel_rfl) ok36 <|
  hit (by kernel_rfl) ok35 <|
  hit (by kernel_rfl) ok34 <|
  hit (by kernel_rfl) ok33 <|
  hit (by kernel_rfl) ok32 <|
  hit (by kernel_rfl) ok31 <|
  hit (by kernel_rfl) ok30 <|
  hit (by kernel_rfl) ok29 <|
  hit (by kernel_rfl) ok28 <|
  hit (by kernel_rfl) ok27 <|
  hit (by kernel_rfl) ok26 <|
  hit (by kernel_rfl) ok25 <|
  hit (by kernel_rfl) ok24 <|
  hit (by kernel_rfl) ok23 <|
  hit (by kernel_rfl) ok22 <|
  hit (by kernel_rfl) ok21 <|
  hit (by kernel_rfl) ok20 upto20
theorem upto60 : ∀ f, f < 60 → FnAt f :=
  hit (by kernel_rfl) ok59 <|
  hit (by kernel_rfl) ok58 <|
  hit (by kernel_rfl) ok57 <|
  hit (by kernel_rfl) ok56 <|
  hit (by kernel_rfl) ok55 <|
  hit (by kernel_rfl) ok54 <|
  hit (by kernel_rfl) ok53 <|
  hit (by kernel_rfl) ok52 <|
  hit (by kernel_rfl) ok51 <|
  hit (by kernel_rfl) ok50 <|
  hit (by kernel_rfl) ok49 <|
  hit (by kernel_rfl) ok48 <|
  hit (by kernel_rfl) ok47 <|
  hit (by kernel_rfl) ok46 <|
  hit (by kernel_rfl) ok45 <|
  hit (by kernel_rfl) ok44 <|
  hit (by kernel_rfl) ok43 <|
  hit (by kernel_rfl) ok42 <|
  hit (by kernel_rfl) ok41 <|
  hit (by kernel_rfl) ok40 upto40
theorem upto80 : ∀ f, f < 80 → FnAt f :=
  hit (by kernel_rfl) ok79 <|
  hit (by kernel_rfl) ok78 <|
  hit (by kernel_rfl) ok77 <|
  hit (by kernel_rfl) ok76 <|
  hit (by kernel_rfl) ok75 <|
  hit (by kernel_rfl) ok74 <|
  hit (by kernel_rfl) ok73 <|
  hit (by kernel_rfl) ok72 <|
  hit (by kernel_rfl) ok71 <|
  hit (by kernel_rfl) ok70 <|
  hit (by kernel_rfl) ok69 <|
  hit (by kernel_rfl) ok68 <|
  hit (by kernel_rfl) ok67 <|
  hit (by kernel_rfl) ok66 <|
  hit (by kernel_rfl) ok65 <|
  hit (by kernel_rfl) ok64 <|
  hit (by kernel_rfl) ok63 <|
  hit (by kernel_rfl) ok62 <|
  hit (by kernel_rfl) ok61 <|
  hit (by kernel_rfl) ok60 upto60
theorem upto100 : ∀ f, f < 100 → FnAt f :=
  nix (by kernel_rfl) <|
  nix (by kernel_rfl) <|
  hit (by kernel_rfl) ok97 <|
  hit (by kernel_rfl) ok96 <|
  hit (by kernel_rfl) ok95 <|
  hit (by kernel_rfl) ok94 <|
  hit (by kernel_rfl) ok93 <|
  hit (by kernel_rfl) ok92 <|
  hit (by kernel_rfl) ok91 <|
  nix (by kernel_rfl) <|
  hit (by kernel_rfl) ok89 <|
  hit (by kernel_rfl) ok88 <|
  hit (by kernel_rfl) ok87 <|
  hit (by kernel_rfl) ok86 <|
  hit (by kernel_rfl) ok85 <|
  hit (by kernel_rfl) ok84 <|
  hit (by kernel_rfl) ok83 <|
  hit (by kernel_rfl) ok82 <|
  hit (by kernel_rfl) ok81 <|
  hit (by kernel_rfl) ok80 upto80
theorem upto120 : ∀ f, f < 120 → FnAt f :=
  nix (by kernel_rfl) <|
  nix (by kernel_rfl) <|
  hit (by kernel_rfl) ok117 <|
  nix (by kernel_rfl) <|
  nix (by kernel_rfl) <|
  nix (by kernel_rfl) <|
  nix (by kernel_rfl) <|
  nix (by kernel_rfl) <|
  nix (by kernel_rfl) <|
  nix (by kernel_rfl) <|
  nix (by kernel_rfl) <|
  nix (by kernel_rfl) <|
  nix (by kernel_rfl) <|
  nix (by kernel_rfl) <|
  nix (by kernel_rfl) <|
  nix (by kernel_rfl) <|
  nix (by kernel_rfl) <|
  nix (by kernel_rfl) <|
  nix (by kernel_rfl) <|
  nix (by kernel_rfl) upto100
theorem upto140 : ∀ f, f < 140 → FnAt f :=
  hit (by kernel_rfl) ok139 <|
  hit (by kernel_rfl) ok138 <|
  hit (by kernel_rfl) ok137 <|
  nix (by kernel_rfl) <|
  nix (by kernel_rfl) <|
  nix (by kernel_rfl) <|
  nix (by kernel_rfl) <|
  nix (by kernel_rfl) <|
  nix (by kernel_rfl) <|
  nix (by kernel_rfl) <|
  nix (by kernel_rfl) <|
  nix (by kernel_rfl) <|
  nix (by kernel_rfl) <|
  nix (by kernel_rfl) <|
  nix (by kernel_rfl) <|
  nix (by kernel_rfl) <|
  nix (by kernel_rfl) <|
  nix (by kernel_rfl) <|
  nix (by kernel_rfl) <|
  nix (by kernel_rfl) upto120
theorem upto160 : ∀ f, f < 160 → FnAt f :=
  hit (by kernel_rfl) ok159 <|
  hit (by kernel_rfl) ok158 <|
  hit (by kernel_rfl) ok157 <|
  hit (by kernel_rfl) ok156 <|
  hit (by kernel_rfl) ok155 <|
  nix (by kernel_rfl) <|
  nix (by kernel_rfl) <|
  hit (by kernel_rfl) ok152 <|
  hit (by kernel_rfl) ok151 <|
  hit (by kernel_rfl) ok150 <|
  hit (by kernel_rfl) ok149 <|
  hit (by kernel_rfl) ok148 <|
  hit (by kernel_rfl) ok147 <|
  hit (by kernel_rfl) ok146 <|
  hit (by kernel_rfl) ok145 <|
  hit (by kernel_rfl) ok144 <|
  hit (by kernel_rfl) ok143 <|
  hit (by kernel_rfl) ok142 <|
  hit (by kernel_rfl) ok141 <|
  hit (by kernel_rfl) ok140 upto140
theorem upto180 : ∀ f, f < 180 → FnAt f :=
  nix (by kernel_rfl) <|
  nix (by kernel_rfl) <|
  hit (by kernel_rfl) ok177 <|
  nix (by kernel_rfl) <|
  nix (by kernel_rfl) <|
  hit (by kernel_rfl) ok174 <|
  hit (by kernel_rfl) ok173 <|
  hit (by kernel_rfl) ok172 <|
  hit (by kernel_rfl) ok171 <|
  hit (by kernel_rfl) ok170 <|
  hit (by kernel_rfl) ok169 <|
  hit (by kernel_rfl) ok168 <|
  hit (by kernel_rfl) ok167 <|
  hit (by kernel_rfl) ok166 <|
  hit (by kernel_rfl) ok165 <|
  nix (by kernel_rfl) <|
  hit (by kernel_rfl) ok163 <|
  hit (by kernel_rfl) ok162 <|
  hit (by kernel_rfl) ok161 <|
  hit (by kernel_rfl) ok160 upto160
theorem upto200 : ∀ f, f < 200 → FnAt f :=
  nix (by kernel_rfl) <|
  nix (by kernel_rfl) <|
  nix (by kernel_rfl) <|
  nix (by kernel_rfl) <|
  nix (by kernel_rfl) <|
  nix (by kernel_rfl) <|
  nix (by kernel_rfl) <|
  nix (by kernel_rfl) <|
  nix (by kernel_rfl) <|
  nix (by kernel_rfl) <|
  nix (by kernel_rfl) <|
  nix (by kernel_rfl) <|
  nix (by kernel_rfl) <|
  nix (by kernel_rfl) <|
  nix (by kernel_rfl) <|
  nix (by kernel_rfl) <|
  nix (by kernel_rfl) <|
  nix (by kernel_rfl) <|
  nix (by kernel_rfl) <|
  nix (by kernel_rfl) upto180
theorem upto215 : ∀ f, f < 215 → FnAt f :=
  nix (by kernel_rfl) <|
  nix (by kernel_rfl) <|
  nix (by kernel_rfl) <|
  nix (by kernel_rfl) <|
  nix (by kernel_rfl) <|
  nix (by kernel_rfl) <|
  nix (by kernel_rfl) <|
  nix (by kernel_rfl) <|
  nix (by kernel_rfl) <|
  nix (by kernel_rfl) <|
  nix (by kernel_rfl) <|
  nix (by kernel_rfl) <|
  nix (by kernel_rfl) <|
  nix (by kernel_rfl) <|
  nix (by kernel_rfl) upto200
theorem fns (f : FuncId) (xf : XFun) (h : code9z (num f) = some xf) : FunOK Tryz.prog num f xf := by
  by_cases hf : f < 215
  · exact upto215 f hf xf h
  · have hn : num f = 100000 + f := by
      unfold num
      rw [List.getElem?_eq_none (by rw [show gids.length = 215 from by kernel_rfl]; simp only [FuncId] at *; omega)]; rfl
    rw [hn] at h
    unfold code9z at h
    split at h <;> first | (exfalso; simp only [FuncId] at *; omega) | cases h
def ren21 : Go.Shelf.Ren := ⟨fun | 21 => 90 | 27 => 153 | 28 => 154 | 35 => 175 | 39 => 178 | n => n, fun | 22 => 26 | 3 => 3 | 4 => 4 | 0 => 0 | n => n, fun | n => n⟩
theorem lays21 : Go.Proofs.Lays2.n21 Tryz.prog ren21 := {
  mixed := by kernel_rfl
  f21 := Tryz.func90.trans (congrArg some (by kernel_rfl))
  f27 := Tryz.func153.trans (congrArg some (by kernel_rfl))
  f28 := Tryz.func154.trans (congrArg some (by kernel_rfl))
  f35 := Tryz.func175.trans (congrArg some (by kernel_rfl))
  f39 := Tryz.func178.trans (congrArg some (by kernel_rfl))
  t0 := Tryz.underlying0
  a0 := Tryz.isAgg0
  z0 := Tryz.sizeOf0
  v0 := Tryz.zeroValue0
  t3 := Tryz.underlying3
  a3 := Tryz.isAgg3
  z3 := Tryz.sizeOf3
  v3 := Tryz.zeroValue3
  t4 := Tryz.underlying4
  a4 := Tryz.isAgg4
  z4 := Tryz.sizeOf4
  v4 := Tryz.zeroValue4
  t22 := Tryz.underlying26
  a22 := Tryz.isAgg26
  z22 := Tryz.sizeOf26
  v22 := Tryz.zeroValue26
  i3 := by kernel_rfl }
theorem ins_num (f : FuncId) (h : num f = 766) : f = ren21.f 21 := by
  by_cases hf : f < 215
  · exact (by decide +kernel : ∀ f : Fin 215, num f.val = 766 → f.val = ren21.f 21) ⟨f, hf⟩ h
  · have hn : num f = 100000 + f := by
      unfold num
      rw [List.getElem?_eq_none (by rw [show gids.length = 215 from by kernel_rfl]; simp only [FuncId] at *; omega)]; rfl
    rw [hn] at h
    exfalso; simp only [FuncId] at *; omega
theorem ins_callable : Callable Tryz.prog (ren21.f 21) := ⟨Tryz.f90, Tryz.func90, by decide +kernel, by kernel_rfl⟩
theorem runs : Runs Tryz.prog num code9z (extInsert 766) := ⟨by kernel_rfl, fns, extInsert_ok lays21 ins_num ins_callable⟩
end Go.Proofs.YtfmpeoickjggiaaGreatDoor

