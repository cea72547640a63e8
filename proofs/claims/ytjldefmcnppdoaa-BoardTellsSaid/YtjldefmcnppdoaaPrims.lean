/- What stands in for the library's functions is true of them: see StartC. -/
import Derived.Test.YtjldefmcnppdoaaStartC
