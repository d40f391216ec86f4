/-
  EX: the functions of law 09.
-/
import Derived.Test.YtfmpeoickjggiaaC9
namespace Go.EX

def code9 : Nat → Option XFun
  | 462 => some x462
  | 465 => some x465
  | 464 => some x464
  | 468 => some x468
  | 374 => some x374
  | 658 => some x658
  | 533 => some x533
  | 331 => some x331
  | 467 => some x467
  | 659 => some x659
  | 303 => some x303
  | 340 => some x340
  | 368 => some x368
  | 661 => some x661
  | 542 => some x542
  | 538 => some x538
  | 540 => some x540
  | 325 => some x325
  | 470 => some x470
  | 350 => some x350
  | 660 => some x660
  | 248 => some x248
  | 313 => some x313
  | 367 => some x367
  | 662 => some x662
  | 251 => some x251
  | 247 => some x247
  | 539 => some x539
  | 543 => some x543
  | 541 => some x541
  | 537 => some x537
  | 536 => some x536
  | 145 => some x145
  | 535 => some x535
  | 324 => some x324
  | 249 => some x249
  | 737 => some x737
  | 250 => some x250
  | 312 => some x312
  | 363 => some x363
  | 364 => some x364
  | 370 => some x370
  | 371 => some x371
  | 369 => some x369
  | 252 => some x252
  | 253 => some x253
  | 747 => some x747
  | 254 => some x254
  | 750 => some x750
  | 255 => some x255
  | 748 => some x748
  | 256 => some x256
  | 259 => some x259
  | 257 => some x257
  | 320 => some x320
  | 321 => some x321
  | 327 => some x327
  | 328 => some x328
  | 326 => some x326
  | 304 => some x304
  | 305 => some x305
  | 318 => some x318
  | 319 => some x319
  | 314 => some x314
  | 757 => some x757
  | 760 => some x760
  | 758 => some x758
  | 746 => some x746
  | 258 => some x258
  | 756 => some x756
  | _ => none

end Go.EX
