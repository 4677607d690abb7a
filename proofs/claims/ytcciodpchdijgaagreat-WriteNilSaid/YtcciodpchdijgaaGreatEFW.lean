/- The table of these functions. -/
import Derived.Test.YtcciodpchdijgaaGreatEHW
import Derived.Test.YtcciodpchdijgaaGreatEIS
set_option linter.constructorNameAsVariable false
set_option linter.unusedVariables false
set_option linter.unusedSimpArgs false
set_option maxRecDepth 100000
namespace Ev
open Go Go.Conc Go.Proofs
noncomputable def RTs : List (Nat × Nat × RE) := [(0, 1, re141), (2, 3, re271), (4, 5, re381)]
noncomputable def RT0 : Nat → Nat → Option RE := fun i j => rtAt i j RTs
noncomputable def T0 : Tb := ⟨Tryz.prog, tbL RT0⟩
theorem rnd0 {t : Tr EF} (hcs : CsOk Tryz.prog Fence.wide cs0) (hm : Tryz.prog.follows .mixedOrders = true) : RndOk T0 Tryz.prog Fence.wide ⟨t, rounds⟩ RT0 := by
  intro i j r hr N cl l hcl
  have hq := rtAt_mem hr
  have hk : ∀ f, (Fence.wide.inRound l).fn f := fun _ => trivial
  have hd : (Fence.wide.inRound l).depth = none := rfl
  have hc : CsOk Tryz.prog (Fence.wide.inRound l) cs0 := hcs
  simp only [RTs, List.mem_cons, List.not_mem_nil, or_false, Prod.mk.injEq] at hq
  rcases hq with ⟨rfl, rfl, rfl⟩ | ⟨rfl, rfl, rfl⟩ | ⟨rfl, rfl, rfl⟩
  · refine ⟨?_, ?_⟩
    · show COk T0 Tryz.prog (Fence.wide.inRound l) 0 re141.lv re141.n N cl (DOf false) re141.assign rc0
      rw [← rc0_ok]
      exact ecR_ok hc hm hk hd (hcl.inRound l) _
    · show COk T0 Tryz.prog (Fence.wide.inRound l) 0 re141.lv re141.n N cl (DOf false) re141.body rc1
      rw [← rc1_ok]
      exact ecR_ok hc hm hk hd (hcl.inRound l) _
  · refine ⟨?_, ?_⟩
    · show COk T0 Tryz.prog (Fence.wide.inRound l) 0 re271.lv re271.n N cl (DOf false) re271.assign rc2
      rw [← rc2_ok]
      exact ecR_ok hc hm hk hd (hcl.inRound l) _
    · show COk T0 Tryz.prog (Fence.wide.inRound l) 0 re271.lv re271.n N cl (DOf false) re271.body rc3
      rw [← rc3_ok]
      exact ecR_ok hc hm hk hd (hcl.inRound l) _
  · refine ⟨?_, ?_⟩
    · show COk T0 Tryz.prog (Fence.wide.inRound l) 0 re381.lv re381.n N cl (DOf false) re381.assign rc4
      rw [← rc4_ok]
      exact ecR_ok hc hm hk hd (hcl.inRound l) _
    · show COk T0 Tryz.prog (Fence.wide.inRound l) 0 re381.lv re381.n N cl (DOf false) re381.body rc5
      rw [← rc5_ok]
      exact ecR_ok hc hm hk hd (hcl.inRound l) _
theorem fs0 (hcs : CsOk Tryz.prog Fence.wide cs0) (hm : Tryz.prog.follows .mixedOrders = true) (h380 : ExtOk T0 Tryz.prog prCmp 380) (h402 : PrimOk T0 Tryz.prog Fence.wide prMore 402) : Fs T0 Tryz.prog Fence.wide 0 fsL := by
  have H : Hy Fence.wide := ⟨hcs, hm, fun _ => trivial, rfl, rfl⟩
  refine fs_n 0 ?_
  refine fs_n 1 ?_
  refine fs_n 2 ?_
  refine fs_n 3 ?_
  refine fs_n 4 ?_
  refine fs_n 5 ?_
  refine fs_n 6 ?_
  refine fs_n 7 ?_
  refine fs_n 8 ?_
  refine fs_n 9 ?_
  refine fs_c 10 (F10_ok H) ?_
  refine fs_n 11 ?_
  refine fs_n 12 ?_
  refine fs_n 13 ?_
  refine fs_n 14 ?_
  refine fs_n 15 ?_
  refine fs_c 16 (F16_ok H) ?_
  refine fs_c 17 (F17_ok H) ?_
  refine fs_c 18 (F18_ok H) ?_
  refine fs_n 19 ?_
  refine fs_c 20 (F20_ok H) ?_
  refine fs_c 21 (F21_ok H) ?_
  refine fs_n 22 ?_
  refine fs_c 23 (F23_ok H) ?_
  refine fs_c 24 (F24_ok H) ?_
  refine fs_c 25 (F25_ok H) ?_
  refine fs_c 26 (F26_ok H) ?_
  refine fs_n 27 ?_
  refine fs_n 28 ?_
  refine fs_n 29 ?_
  refine fs_n 30 ?_
  refine fs_n 31 ?_
  refine fs_n 32 ?_
  refine fs_n 33 ?_
  refine fs_n 34 ?_
  refine fs_n 35 ?_
  refine fs_n 36 ?_
  refine fs_n 37 ?_
  refine fs_n 38 ?_
  refine fs_c 39 (F39_ok H) ?_
  refine fs_c 40 (F40_ok H) ?_
  refine fs_c 41 (F41_ok H) ?_
  refine fs_c 42 (F42_ok H) ?_
  refine fs_c 43 (F43_ok H) ?_
  refine fs_n 44 ?_
  refine fs_n 45 ?_
  refine fs_c 46 (F46_ok H) ?_
  refine fs_c 47 (F47_ok H) ?_
  refine fs_n 48 ?_
  refine fs_n 49 ?_
  refine fs_n 50 ?_
  refine fs_n 51 ?_
  refine fs_n 52 ?_
  refine fs_n 53 ?_
  refine fs_c 54 (F54_ok H) ?_
  refine fs_c 55 (F55_ok H) ?_
  refine fs_c 56 (F56_ok H) ?_
  refine fs_c 57 (F57_ok H) ?_
  refine fs_c 58 (F58_ok H) ?_
  refine fs_c 59 (F59_ok H) ?_
  refine fs_c 60 (F60_ok H) ?_
  refine fs_c 61 (F61_ok H) ?_
  refine fs_c 62 (F62_ok H) ?_
  refine fs_c 63 (F63_ok H) ?_
  refine fs_c 64 (F64_ok H) ?_
  refine fs_c 65 (F65_ok H) ?_
  refine fs_c 66 (F66_ok H) ?_
  refine fs_c 67 (F67_ok H) ?_
  refine fs_n 68 ?_
  refine fs_c 69 (F69_ok H) ?_
  refine fs_c 70 (F70_ok H) ?_
  refine fs_c 71 (F71_ok H) ?_
  refine fs_c 72 (F72_ok H) ?_
  refine fs_n 73 ?_
  refine fs_c 74 (F74_ok H) ?_
  refine fs_c 75 (F75_ok H) ?_
  refine fs_c 76 (F76_ok H) ?_
  refine fs_c 77 (F77_ok H) ?_
  refine fs_c 78 (F78_ok H) ?_
  refine fs_c 79 (F79_ok H) ?_
  refine fs_c 80 (F80_ok H) ?_
  refine fs_c 81 (F81_ok H) ?_
  refine fs_c 82 (F82_ok H) ?_
  refine fs_c 83 (F83_ok H) ?_
  refine fs_n 84 ?_
  refine fs_c 85 (F85_ok H) ?_
  refine fs_c 86 (F86_ok H) ?_
  refine fs_c 87 (F87_ok H) ?_
  refine fs_c 88 (F88_ok H) ?_
  refine fs_c 89 (F89_ok H) ?_
  refine fs_c 90 (F90_ok H) ?_
  refine fs_n 91 ?_
  refine fs_n 92 ?_
  refine fs_n 93 ?_
  refine fs_n 94 ?_
  refine fs_n 95 ?_
  refine fs_n 96 ?_
  refine fs_c 97 (F97_ok H) ?_
  refine fs_n 98 ?_
  refine fs_n 99 ?_
  refine fs_c 100 (F100_ok H) ?_
  refine fs_c 101 (F101_ok H) ?_
  refine fs_c 102 (F102_ok H) ?_
  refine fs_c 103 (F103_ok H) ?_
  refine fs_c 104 (F104_ok H) ?_
  refine fs_n 105 ?_
  refine fs_c 106 (F106_ok H) ?_
  refine fs_n 107 ?_
  refine fs_n 108 ?_
  refine fs_n 109 ?_
  refine fs_c 110 (F110_ok H) ?_
  refine fs_c 111 (F111_ok H) ?_
  refine fs_c 112 (F112_ok H) ?_
  refine fs_c 113 (F113_ok H) ?_
  refine fs_c 114 (F114_ok H) ?_
  refine fs_c 115 (F115_ok H) ?_
  refine fs_c 116 (F116_ok H) ?_
  refine fs_c 117 (F117_ok H) ?_
  refine fs_c 118 (F118_ok H) ?_
  refine fs_c 119 (F119_ok H) ?_
  refine fs_c 120 (F120_ok H) ?_
  refine fs_c 121 (F121_ok H) ?_
  refine fs_n 122 ?_
  refine fs_c 123 (F123_ok H) ?_
  refine fs_n 124 ?_
  refine fs_n 125 ?_
  refine fs_n 126 ?_
  refine fs_n 127 ?_
  refine fs_n 128 ?_
  refine fs_c 129 (F129_ok H) ?_
  refine fs_c 130 (F130_ok H) ?_
  refine fs_c 131 (F131_ok H) ?_
  refine fs_n 132 ?_
  refine fs_c 133 (F133_ok H) ?_
  refine fs_c 134 (F134_ok H) ?_
  refine fs_n 135 ?_
  refine fs_c 136 (F136_ok H) ?_
  refine fs_c 137 (F137_ok H) ?_
  refine fs_c 138 (F138_ok H) ?_
  refine fs_c 139 (F139_ok H) ?_
  refine fs_c 140 (F140_ok H) ?_
  refine fs_c 141 (F141_ok H rfl rfl) ?_
  refine fs_c 142 (F142_ok H) ?_
  refine fs_c 143 (F143_ok H) ?_
  refine fs_c 144 (F144_ok H) ?_
  refine fs_c 145 (F145_ok H) ?_
  refine fs_c 146 (F146_ok H) ?_
  refine fs_c 147 (F147_ok H) ?_
  refine fs_c 148 (F148_ok H) ?_
  refine fs_c 149 (F149_ok H) ?_
  refine fs_c 150 (F150_ok H) ?_
  refine fs_c 151 (F151_ok H) ?_
  refine fs_c 152 (F152_ok H) ?_
  refine fs_c 153 (F153_ok H) ?_
  refine fs_c 154 (F154_ok H) ?_
  refine fs_c 155 (F155_ok H) ?_
  refine fs_c 156 (F156_ok H) ?_
  refine fs_c 157 (F157_ok H) ?_
  refine fs_c 158 (F158_ok H) ?_
  refine fs_c 159 (F159_ok H) ?_
  refine fs_c 160 (F160_ok H) ?_
  refine fs_c 161 (F161_ok H) ?_
  refine fs_c 162 (F162_ok H) ?_
  refine fs_c 163 (F163_ok H) ?_
  refine fs_c 164 (F164_ok H) ?_
  refine fs_c 165 (F165_ok H) ?_
  refine fs_c 166 (F166_ok H) ?_
  refine fs_c 167 (F167_ok H) ?_
  refine fs_c 168 (F168_ok H) ?_
  refine fs_c 169 (F169_ok H) ?_
  refine fs_c 170 (F170_ok H) ?_
  refine fs_c 171 (F171_ok H) ?_
  refine fs_c 172 (F172_ok H) ?_
  refine fs_c 173 (F173_ok H) ?_
  refine fs_n 174 ?_
  refine fs_n 175 ?_
  refine fs_c 176 (F176_ok H) ?_
  refine fs_n 177 ?_
  refine fs_n 178 ?_
  refine fs_n 179 ?_
  refine fs_n 180 ?_
  refine fs_c 181 (F181_ok H) ?_
  refine fs_n 182 ?_
  refine fs_c 183 (F183_ok H) ?_
  refine fs_c 184 (F184_ok H) ?_
  refine fs_c 185 (F185_ok H) ?_
  refine fs_n 186 ?_
  refine fs_n 187 ?_
  refine fs_n 188 ?_
  refine fs_c 189 (F189_ok H) ?_
  refine fs_c 190 (F190_ok H) ?_
  refine fs_c 191 (F191_ok H) ?_
  refine fs_c 192 (F192_ok H) ?_
  refine fs_c 193 (F193_ok H) ?_
  refine fs_c 194 (F194_ok H) ?_
  refine fs_c 195 (F195_ok H) ?_
  refine fs_c 196 (F196_ok H) ?_
  refine fs_n 197 ?_
  refine fs_c 198 (F198_ok H) ?_
  refine fs_c 199 (F199_ok H) ?_
  refine fs_c 200 (F200_ok H) ?_
  refine fs_c 201 (F201_ok H) ?_
  refine fs_c 202 (F202_ok H) ?_
  refine fs_c 203 (F203_ok H) ?_
  refine fs_c 204 (F204_ok H) ?_
  refine fs_c 205 (F205_ok H) ?_
  refine fs_c 206 (F206_ok H) ?_
  refine fs_c 207 (F207_ok H) ?_
  refine fs_c 208 (F208_ok H) ?_
  refine fs_c 209 (F209_ok H) ?_
  refine fs_c 210 (F210_ok H) ?_
  refine fs_c 211 (F211_ok H) ?_
  refine fs_c 212 (F212_ok H) ?_
  refine fs_c 213 (F213_ok H) ?_
  refine fs_c 214 (F214_ok H) ?_
  refine fs_c 215 (F215_ok H) ?_
  refine fs_n 216 ?_
  refine fs_n 217 ?_
  refine fs_c 218 (F218_ok H) ?_
  refine fs_c 219 (F219_ok H) ?_
  refine fs_c 220 (F220_ok H) ?_
  refine fs_c 221 (F221_ok H) ?_
  refine fs_c 222 (F222_ok H) ?_
  refine fs_c 223 (F223_ok H) ?_
  refine fs_c 224 (F224_ok H) ?_
  refine fs_c 225 (F225_ok H) ?_
  refine fs_c 226 (F226_ok H) ?_
  refine fs_c 227 (F227_ok H) ?_
  refine fs_c 228 (F228_ok H) ?_
  refine fs_c 229 (F229_ok H) ?_
  refine fs_c 230 (F230_ok H) ?_
  refine fs_c 231 (F231_ok H) ?_
  refine fs_c 232 (F232_ok H) ?_
  refine fs_c 233 (F233_ok H) ?_
  refine fs_c 234 (F234_ok H) ?_
  refine fs_c 235 (F235_ok H) ?_
  refine fs_c 236 (F236_ok H) ?_
  refine fs_c 237 (F237_ok H) ?_
  refine fs_c 238 (F238_ok H) ?_
  refine fs_c 239 (F239_ok H) ?_
  refine fs_c 240 (F240_ok H) ?_
  refine fs_c 241 (F241_ok H) ?_
  refine fs_c 242 (F242_ok H) ?_
  refine fs_n 243 ?_
  refine fs_c 244 (F244_ok H) ?_
  refine fs_c 245 (F245_ok H) ?_
  refine fs_c 246 (F246_ok H) ?_
  refine fs_c 247 (F247_ok H) ?_
  refine fs_n 248 ?_
  refine fs_c 249 (F249_ok H) ?_
  refine fs_c 250 (F250_ok H) ?_
  refine fs_c 251 (F251_ok H) ?_
  refine fs_c 252 (F252_ok H) ?_
  refine fs_c 253 (F253_ok H) ?_
  refine fs_c 254 (F254_ok H) ?_
  refine fs_c 255 (F255_ok H) ?_
  refine fs_c 256 (F256_ok H) ?_
  refine fs_c 257 (F257_ok H) ?_
  refine fs_c 258 (F258_ok H) ?_
  refine fs_c 259 (F259_ok H) ?_
  refine fs_c 260 (F260_ok H) ?_
  refine fs_c 261 (F261_ok H) ?_
  refine fs_c 262 (F262_ok H) ?_
  refine fs_c 263 (F263_ok H) ?_
  refine fs_c 264 (F264_ok H) ?_
  refine fs_c 265 (F265_ok H) ?_
  refine fs_c 266 (F266_ok H) ?_
  refine fs_c 267 (F267_ok H) ?_
  refine fs_c 268 (F268_ok H) ?_
  refine fs_n 269 ?_
  refine fs_c 270 (F270_ok H) ?_
  refine fs_c 271 (F271_ok H rfl rfl) ?_
  refine fs_c 272 (F272_ok H) ?_
  refine fs_c 273 (F273_ok H) ?_
  refine fs_c 274 (F274_ok H) ?_
  refine fs_c 275 (F275_ok H) ?_
  refine fs_c 276 (F276_ok H) ?_
  refine fs_c 277 (F277_ok H) ?_
  refine fs_c 278 (F278_ok H) ?_
  refine fs_n 279 ?_
  refine fs_n 280 ?_
  refine fs_n 281 ?_
  refine fs_n 282 ?_
  refine fs_n 283 ?_
  refine fs_n 284 ?_
  refine fs_c 285 (F285_ok H) ?_
  refine fs_c 286 (F286_ok H) ?_
  refine fs_c 287 (F287_ok H) ?_
  refine fs_c 288 (F288_ok H) ?_
  refine fs_c 289 (F289_ok H) ?_
  refine fs_c 290 (F290_ok H) ?_
  refine fs_c 291 (F291_ok H) ?_
  refine fs_c 292 (F292_ok H) ?_
  refine fs_c 293 (F293_ok H) ?_
  refine fs_n 294 ?_
  refine fs_n 295 ?_
  refine fs_n 296 ?_
  refine fs_c 297 (F297_ok H) ?_
  refine fs_c 298 (F298_ok H) ?_
  refine fs_c 299 (F299_ok H) ?_
  refine fs_c 300 (F300_ok H) ?_
  refine fs_c 301 (F301_ok H) ?_
  refine fs_c 302 (F302_ok H) ?_
  refine fs_n 303 ?_
  refine fs_c 304 (F304_ok H) ?_
  refine fs_c 305 (F305_ok H) ?_
  refine fs_c 306 (F306_ok H) ?_
  refine fs_c 307 (F307_ok H) ?_
  refine fs_c 308 (F308_ok H) ?_
  refine fs_c 309 (F309_ok H) ?_
  refine fs_c 310 (F310_ok H) ?_
  refine fs_c 311 (F311_ok H) ?_
  refine fs_c 312 (F312_ok H) ?_
  refine fs_c 313 (F313_ok H) ?_
  refine fs_n 314 ?_
  refine fs_n 315 ?_
  refine fs_n 316 ?_
  refine fs_n 317 ?_
  refine fs_c 318 (F318_ok H) ?_
  refine fs_c 319 (F319_ok H) ?_
  refine fs_c 320 (F320_ok H) ?_
  refine fs_c 321 (F321_ok H) ?_
  refine fs_c 322 (F322_ok H) ?_
  refine fs_c 323 (F323_ok H) ?_
  refine fs_c 324 (F324_ok H) ?_
  refine fs_c 325 (F325_ok H) ?_
  refine fs_c 326 (F326_ok H) ?_
  refine fs_c 327 (F327_ok H) ?_
  refine fs_n 328 ?_
  refine fs_c 329 (F329_ok H) ?_
  refine fs_c 330 (F330_ok H) ?_
  refine fs_c 331 (F331_ok H) ?_
  refine fs_c 332 (F332_ok H) ?_
  refine fs_c 333 (F333_ok H) ?_
  refine fs_c 334 (F334_ok H) ?_
  refine fs_c 335 (F335_ok H) ?_
  refine fs_c 336 (F336_ok H) ?_
  refine fs_c 337 (F337_ok H) ?_
  refine fs_c 338 (F338_ok H) ?_
  refine fs_c 339 (F339_ok H) ?_
  refine fs_c 340 (F340_ok H) ?_
  refine fs_n 341 ?_
  refine fs_c 342 (F342_ok H) ?_
  refine fs_n 343 ?_
  refine fs_n 344 ?_
  refine fs_n 345 ?_
  refine fs_n 346 ?_
  refine fs_n 347 ?_
  refine fs_c 348 (F348_ok H) ?_
  refine fs_c 349 (F349_ok H) ?_
  refine fs_c 350 (F350_ok H) ?_
  refine fs_c 351 (F351_ok H) ?_
  refine fs_n 352 ?_
  refine fs_n 353 ?_
  refine fs_n 354 ?_
  refine fs_n 355 ?_
  refine fs_n 356 ?_
  refine fs_c 357 (F357_ok H) ?_
  refine fs_n 358 ?_
  refine fs_n 359 ?_
  refine fs_n 360 ?_
  refine fs_c 361 (F361_ok H) ?_
  refine fs_c 362 (F362_ok H) ?_
  refine fs_c 363 (F363_ok H) ?_
  refine fs_c 364 (F364_ok H) ?_
  refine fs_c 365 (F365_ok H) ?_
  refine fs_c 366 (F366_ok H) ?_
  refine fs_c 367 (F367_ok H) ?_
  refine fs_c 368 (F368_ok H) ?_
  refine fs_c 369 (F369_ok H) ?_
  refine fs_n 370 ?_
  refine fs_n 371 ?_
  refine fs_n 372 ?_
  refine fs_c 373 (F373_ok H) ?_
  refine fs_c 374 (F374_ok H) ?_
  refine fs_n 375 ?_
  refine fs_n 376 ?_
  refine fs_n 377 ?_
  refine fs_n 378 ?_
  refine fs_n 379 ?_
  refine fs_c 380 h380 ?_
  refine fs_c 381 (F381_ok H rfl rfl) ?_
  refine fs_c 382 (F382_ok H) ?_
  refine fs_n 383 ?_
  refine fs_n 384 ?_
  refine fs_n 385 ?_
  refine fs_n 386 ?_
  refine fs_n 387 ?_
  refine fs_n 388 ?_
  refine fs_n 389 ?_
  refine fs_n 390 ?_
  refine fs_c 391 (F391_ok H) ?_
  refine fs_c 392 (F392_ok H) ?_
  refine fs_c 393 (F393_ok H) ?_
  refine fs_c 394 (F394_ok H) ?_
  refine fs_c 395 (F395_ok H) ?_
  refine fs_n 396 ?_
  refine fs_c 397 (F397_ok H) ?_
  refine fs_c 398 (F398_ok H) ?_
  refine fs_c 399 (F399_ok H) ?_
  refine fs_c 400 (F400_ok H) ?_
  refine fs_n 401 ?_
  refine fs_c 402 h402 ?_
  refine fs_c 403 (F403_ok H) ?_
  refine fs_n 404 ?_
  refine fs_n 405 ?_
  refine fs_n 406 ?_
  refine fs_n 407 ?_
  refine fs_c 408 (F408_ok H) ?_
  refine fs_c 409 (F409_ok H) ?_
  refine fs_c 410 (F410_ok H) ?_
  refine fs_c 411 (F411_ok H) ?_
  refine fs_c 412 (F412_ok H) ?_
  refine fs_c 413 (F413_ok H) ?_
  refine fs_c 414 (F414_ok H) ?_
  refine fs_n 415 ?_
  refine fs_c 416 (F416_ok H) ?_
  refine fs_c 417 (F417_ok H) ?_
  refine fs_n 418 ?_
  refine fs_n 419 ?_
  refine fs_n 420 ?_
  refine fs_n 421 ?_
  refine fs_n 422 ?_
  refine fs_c 423 (F423_ok H) ?_
  refine fs_n 424 ?_
  refine fs_n 425 ?_
  refine fs_n 426 ?_
  refine fs_n 427 ?_
  refine fs_n 428 ?_
  refine fs_c 429 (F429_ok H) ?_
  refine fs_n 430 ?_
  refine fs_n 431 ?_
  refine fs_n 432 ?_
  refine fs_n 433 ?_
  refine fs_n 434 ?_
  refine fs_n 435 ?_
  refine fs_n 436 ?_
  refine fs_n 437 ?_
  refine fs_n 438 ?_
  refine fs_n 439 ?_
  refine fs_c 440 (F440_ok H) ?_
  refine fs_c 441 (F441_ok H) ?_
  refine fs_n 442 ?_
  refine fs_n 443 ?_
  refine fs_n 444 ?_
  refine fs_n 445 ?_
  refine fs_n 446 ?_
  refine fs_n 447 ?_
  refine fs_n 448 ?_
  refine fs_n 449 ?_
  refine fs_n 450 ?_
  refine fs_n 451 ?_
  refine fs_n 452 ?_
  refine fs_n 453 ?_
  refine fs_n 454 ?_
  refine fs_n 455 ?_
  refine fs_n 456 ?_
  refine fs_n 457 ?_
  refine fs_n 458 ?_
  refine fs_n 459 ?_
  refine fs_n 460 ?_
  refine fs_n 461 ?_
  refine fs_n 462 ?_
  refine fs_n 463 ?_
  refine fs_n 464 ?_
  refine fs_n 465 ?_
  refine fs_n 466 ?_
  refine fs_n 467 ?_
  refine fs_n 468 ?_
  refine fs_n 469 ?_
  refine fs_n 470 ?_
  refine fs_n 471 ?_
  refine fs_n 472 ?_
  refine fs_n 473 ?_
  trivial
end Ev
