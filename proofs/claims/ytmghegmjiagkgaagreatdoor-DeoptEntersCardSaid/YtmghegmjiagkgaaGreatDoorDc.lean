/-
  EX: the functions of the statements on deopt.Frame and deopt.Enter.
-/
import Derived.Test.YtmghegmjiagkgaaGreatDoorCD
import Derived.Test.YtmghegmjiagkgaaGreatDoorCE
namespace Go.EX

def codeD : Nat → Option XFun
  | 1 => some x1
  | 14 => some x14
  | 16 => some x16
  | 17 => some x17
  | 18 => some x18
  | 19 => some x19
  | 20 => some x20
  | 21 => some x21
  | 22 => some x22
  | 23 => some x23
  | 24 => some x24
  | 25 => some x25
  | 26 => some x26
  | 27 => some x27
  | 28 => some x28
  | 29 => some x29
  | 30 => some x30
  | 31 => some x31
  | 32 => some x32
  | 33 => some x33
  | 34 => some x34
  | 35 => some x35
  | 36 => some x36
  | 37 => some x37
  | 38 => some x38
  | 39 => some x39
  | 40 => some x40
  | 41 => some x41
  | 42 => some x42
  | 43 => some x43
  | 44 => some x44
  | 45 => some x45
  | 46 => some x46
  | 47 => some x47
  | 48 => some x48
  | 49 => some x49
  | 50 => some x50
  | 51 => some x51
  | 52 => some x52
  | 53 => some x53
  | 54 => some x54
  | 55 => some x55
  | 64 => some x64
  | 66 => some x66
  | 67 => some x67
  | 68 => some x68
  | 69 => some x69
  | 70 => some x70
  | 71 => some x71
  | 72 => some x72
  | 73 => some x73
  | 74 => some x74
  | 75 => some x75
  | 76 => some x76
  | 77 => some x77
  | 78 => some x78
  | 79 => some x79
  | 80 => some x80
  | 81 => some x81
  | 82 => some x82
  | 83 => some x83
  | 84 => some x84
  | 85 => some x85
  | 287 => some x287
  | 288 => some x288
  | 289 => some x289
  | 306 => some x306
  | 307 => some x307
  | 308 => some x308
  | 309 => some x309
  | 319 => some x319
  | 336 => some x336
  | 337 => some x337
  | 341 => some x341
  | 342 => some x342
  | 343 => some x343
  | 357 => some x357
  | 379 => some x379
  | 400 => some x400
  | 420 => some x420
  | 422 => some x422
  | 494 => some x494
  | 495 => some x495
  | 496 => some x496
  | 497 => some x497
  | 563 => some x563
  | 564 => some x564
  | 753 => some x753
  | 764 => some x764
  | _ => none

end Go.EX
