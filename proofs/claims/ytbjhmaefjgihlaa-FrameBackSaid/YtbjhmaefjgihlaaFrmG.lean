/- Frames, and errors of bits side by side: both at hand. -/
import Derived.Test.YtbjhmaefjgihlaaFrmF
import Derived.Test.YtbjhmaefjgihlaaCrcErr
